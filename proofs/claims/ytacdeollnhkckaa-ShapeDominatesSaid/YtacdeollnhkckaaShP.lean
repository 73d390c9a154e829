/- Graphs: ways, dominators, and the row of last ones as it is found: plain. -/
namespace Go.Proofs.Ytacdeollnhkckaa.C.Sh
set_option linter.unusedVariables false
/-- A path all of whose nodes have P. -/
inductive RW (E : Nat → Nat → Prop) (P : Nat → Prop) (a : Nat) : Nat → Prop
  | refl : P a → RW E P a a
  | step {b c : Nat} : RW E P a b → E b c → P c → RW E P a c
variable {E : Nat → Nat → Prop} {P Q : Nat → Prop} {r : Nat}
theorem RW.mono {a b : Nat} (h : RW E P a b) (hpq : ∀ x, P x → Q x) : RW E Q a b := by
  induction h with
  | refl h => exact .refl (hpq _ h)
  | step _ e hc ih => exact .step ih e (hpq _ hc)
theorem RW.trans {a b c : Nat} (h : RW E P a b) (h' : RW E P b c) : RW E P a c := by
  induction h' with
  | refl _ => exact h
  | step _ e hc ih => exact .step ih e hc
theorem RW.fst {a b : Nat} (h : RW E P a b) : P a := by
  induction h with
  | refl h => exact h
  | step _ _ _ ih => exact ih
theorem RW.lst {a b : Nat} (h : RW E P a b) : P b := by
  cases h with
  | refl h => exact h
  | step _ _ h => exact h
/-- Reached from r. -/
def Rc (E : Nat → Nat → Prop) (r b : Nat) : Prop := RW E (fun _ => True) r b
/-- d lies on each way to b. -/
def Dom (E : Nat → Nat → Prop) (r d b : Nat) : Prop := ¬ RW E (· ≠ d) r b
theorem Dom.self (b : Nat) : Dom E r b b := fun h => h.lst rfl
theorem Dom.root (b : Nat) : Dom E r r b := fun h => h.fst rfl
theorem Dom.pred {d k n : Nat} (h : Dom E r d n) (e : E k n) (hn : d ≠ n) : Dom E r d k := fun hk => h (.step hk e (Ne.symm hn))
/-- A way that goes by a dominator. -/
theorem Dom.rc {d n : Nat} (h : Dom E r d n) (hr : Rc E r n) : Rc E r d := by
  have key : ∀ m, Rc E r m → Rc E r d ∨ RW E (· ≠ d) r m := by
    intro m hm
    induction hm with
    | refl _ =>
      by_cases q : r = d
      · exact .inl (q ▸ .refl trivial)
      · exact .inr (.refl q)
    | step h1 e _ ih =>
      rename_i b c _
      rcases ih with ih | ih
      · exact .inl ih
      · by_cases q : c = d
        · subst q; exact .inl (.step h1 e trivial)
        · exact .inr (.step ih e q)
  rcases key n hr with h1 | h1
  · exact h1
  · exact absurd h1 h
theorem Dom.trans {c d n : Nat} (h1 : Dom E r c d) (h2 : Dom E r d n) : Dom E r c n := by
  intro h
  have key : ∀ m, RW E (· ≠ c) r m → RW E (· ≠ c) r d ∨ RW E (· ≠ d) r m := by
    intro m hm
    induction hm with
    | refl q =>
      by_cases q' : r = d
      · exact .inl (q' ▸ .refl q)
      · exact .inr (.refl q')
    | step a e q ih =>
      rename_i b x
      rcases ih with ih | ih
      · exact .inl ih
      · by_cases q' : x = d
        · subst q'; exact .inl (.step a e q)
        · exact .inr (.step ih e q')
  rcases key n h with x | x
  · exact h1 x
  · exact h2 x
theorem Dom.anti {a b : Nat} (ha : Rc E r a) (h1 : Dom E r a b) (h2 : Dom E r b a) : a = b := by
  by_cases q : a = b
  · exact q
  have key : ∀ m, Rc E r m → RW E (fun x => x ≠ a ∧ x ≠ b) r m := by
    intro m hm
    induction hm with
    | refl _ =>
      refine .refl ⟨fun e => ?_, fun e => ?_⟩
      · subst e; exact h2 (.refl q)
      · subst e; exact h1 (.refl (Ne.symm q))
    | step _ e _ ih =>
      rename_i x y _
      refine .step ih e ⟨fun e' => ?_, fun e' => ?_⟩
      · subst e'; exact h2 (.step (ih.mono fun _ h => h.2) e q)
      · subst e'; exact h1 (.step (ih.mono fun _ h => h.1) e (Ne.symm q))
  exact absurd rfl (key a ha).lst.1
/-- Of two dominators one dominates the other. -/
theorem Dom.chain {a b n : Nat} (hn : Rc E r n) (h1 : Dom E r a n) (h2 : Dom E r b n) : Dom E r a b ∨ Dom E r b a := by
  by_cases q1 : Dom E r a b
  · exact .inl q1
  by_cases q2 : Dom E r b a
  · exact .inr q2
  exfalso
  by_cases q : a = b
  · subst q; exact q1 (Dom.self _)
  have p1 : RW E (· ≠ a) r b := Classical.byContradiction q1
  have p2 : RW E (· ≠ b) r a := Classical.byContradiction q2
  -- a way to n: behind its last visit of a or b it can be led by the other one's way
  have key : ∀ m, Rc E r m → RW E (· ≠ a) r m ∨ RW E (· ≠ b) r m := by
    intro m hm
    induction hm with
    | refl _ =>
      by_cases e : r = a
      · exact .inr (.refl (fun e' => q (e.symm.trans e')))
      · exact .inl (.refl e)
    | step h e _ ih =>
      rename_i x y _
      by_cases ea : y = a
      · subst ea; exact .inr p2
      by_cases eb : y = b
      · subst eb; exact .inl p1
      rcases ih with ih | ih
      · exact .inl (.step ih e ea)
      · exact .inr (.step ih e eb)
  rcases key n hn with h | h
  · exact h1 h
  · exact h2 h
/-- The last one that each way goes by. -/
def IDom (E : Nat → Nat → Prop) (r a b : Nat) : Prop := a ≠ b ∧ Dom E r a b ∧ ∀ d, Dom E r d b → d ≠ b → Dom E r d a
theorem IDom.uniq {a a' b : Nat} (hb : Rc E r b) (h : IDom E r a b) (h' : IDom E r a' b) : a = a' :=
  Dom.anti (h.2.1.rc hb) (h'.2.2 a h.2.1 h.1) (h.2.2 a' h'.2.1 h'.1)
/-! The row of last ones, as it is found. -/
def itf (f : Nat → Nat) : Nat → Nat → Nat
  | 0, x => x
  | i + 1, x => itf f i (f x)
/-- a is x, or above it. -/
def Anc (f : Nat → Nat) (x a : Nat) : Prop := ∃ i, itf f i x = a
theorem Anc.self {f : Nat → Nat} (x : Nat) : Anc f x x := ⟨0, rfl⟩
theorem Anc.up {f : Nat → Nat} {x a : Nat} (h : Anc f (f x) a) : Anc f x a := by obtain ⟨i, h⟩ := h; exact ⟨i + 1, h⟩
theorem Anc.cases {f : Nat → Nat} {x a : Nat} (h : Anc f x a) : a = x ∨ Anc f (f x) a := by
  obtain ⟨i, h⟩ := h
  cases i with
  | zero => exact .inl h.symm
  | succ i => exact .inr ⟨i, h⟩
theorem Anc.ind {f : Nat → Nat} {a : Nat} {M : Nat → Prop} (h0 : M a) (h1 : ∀ x, Anc f (f x) a → M (f x) → M x) : ∀ x, Anc f x a → M x := by
  rintro x ⟨i, h⟩
  induction i generalizing x with
  | zero => exact (show x = a from h) ▸ h0
  | succ i ih => exact h1 x ⟨i, h⟩ (ih (f x) h)
theorem Anc.trans {f : Nat → Nat} {x a b : Nat} (h : Anc f x a) (h' : Anc f a b) : Anc f x b :=
  Anc.ind (M := fun x => Anc f x b) h' (fun _ _ ih => ih.up) x h
def upd (f : Nat → Nat) (n b x : Nat) : Nat := if x = n then b else f x
theorem Anc.split {f : Nat → Nat} {n b x d : Nat} (h : Anc f x d) : Anc (upd f n b) x d ∨ (Anc (upd f n b) x n ∧ Anc f x n ∧ Anc f (f n) d) := by
  obtain ⟨i, h⟩ := h
  induction i generalizing x with
  | zero => exact .inl ⟨0, h⟩
  | succ i ih =>
    by_cases q : x = n
    · subst q; exact .inr ⟨.self _, .self _, ⟨i, h⟩⟩
    · have e : upd f n b x = f x := if_neg q
      rcases ih h with h1 | ⟨h1, h2, h3⟩
      · exact .inl (Anc.up (by rw [e]; exact h1))
      · exact .inr ⟨Anc.up (by rw [e]; exact h1), h2.up, h3⟩
structure Rk (E : Nat → Nat → Prop) (r : Nat) (rank : Nat → Nat) : Prop where
  inj : ∀ a b, Rc E r a → Rc E r b → rank a = rank b → a = b
  par : ∀ n, Rc E r n → n ≠ r → ∃ k, Rc E r k ∧ E k n ∧ rank k < rank n
structure Inv (E : Nat → Nat → Prop) (r : Nat) (rank f : Nat → Nat) (pr : Nat → Prop) : Prop where
  pr0 : pr r
  f0 : f r = r
  rc : ∀ n, pr n → Rc E r n
  up : ∀ n, pr n → n ≠ r → pr (f n) ∧ rank (f n) < rank n
  pa : ∀ n, pr n → n ≠ r → RW E (fun x => rank (f n) ≤ rank x) (f n) n
  dm : ∀ n, pr n → n ≠ r → ∀ d, Dom E r d n → d ≠ n → Anc f (f n) d
section
variable {rank f : Nat → Nat} {pr : Nat → Prop}
theorem Anc.root {f : Nat → Nat} {x a : Nat} (hf : f x = x) (h : Anc f x a) : a = x := by
  obtain ⟨i, h⟩ := h
  induction i with
  | zero => exact h.symm
  | succ i ih => rw [show itf f (i + 1) x = itf f i (f x) from rfl, hf] at h; exact ih h
theorem Inv.anc (h : Inv E r rank f pr) {x a : Nat} (hx : pr x) (ha : Anc f x a) : pr a ∧ rank a ≤ rank x ∧ (a ≠ x → rank a < rank x) ∧ RW E (fun y => rank a ≤ rank y) a x := by
  refine Anc.ind (M := fun x => pr x → pr a ∧ rank a ≤ rank x ∧ (a ≠ x → rank a < rank x) ∧ RW E (fun y => rank a ≤ rank y) a x) ?_ ?_ x ha hx
  · exact fun hp => ⟨hp, Nat.le_refl _, fun q => absurd rfl q, .refl (Nat.le_refl _)⟩
  · intro x hA ih hp
    by_cases q : x = r
    · subst q
      rw [h.f0] at ih
      exact ih hp
    · obtain ⟨u1, u2⟩ := h.up x hp q
      obtain ⟨i1, i2, i3, i4⟩ := ih u1
      exact ⟨i1, by omega, fun _ => by omega, i4.trans ((h.pa x hp q).mono fun y hy => by omega)⟩
theorem Inv.kid (h : Inv E r rank f pr) {k d : Nat} (hk : pr k) (hd : Dom E r d k) : Anc f k d := by
  by_cases q : d = k
  · subst q; exact .self _
  by_cases q2 : k = r
  · subst q2; exact absurd (RW.refl (P := fun x => x ≠ d) (Ne.symm q)) hd
  · exact (h.dm k hk q2 d hd q).up
/-- What all preds that have one have above them, the nearest. -/
structure Best (E : Nat → Nat → Prop) (rank f : Nat → Nat) (pr : Nat → Prop) (n b : Nat) : Prop where
  low : ∃ k, pr k ∧ E k n ∧ rank k < rank n
  all : ∀ k, pr k → E k n → Anc f k b
  top : ∀ c, (∀ k, pr k → E k n → Anc f k c) → Anc f b c
theorem Inv.step (h : Inv E r rank f pr) {n b : Nat} (hb : Best E rank f pr n b) (hn : n ≠ r) : Inv E r rank (upd f n b) (fun x => pr x ∨ x = n) := by
  obtain ⟨k0, hk0, he0, hr0⟩ := hb.low
  obtain ⟨b1, b2, b3, b4⟩ := h.anc hk0 (hb.all k0 hk0 he0)
  have hbn : b ≠ n := fun e => by subst e; omega
  have fn : upd f n b n = b := if_pos rfl
  have fo : ∀ x, x ≠ n → upd f n b x = f x := fun x q => if_neg q
  have lowB : ∀ d, Anc f b d → Anc (upd f n b) b d := by
    intro d hd
    rcases hd.split (n := n) (b := b) with q | ⟨_, q, _⟩
    · exact q
    · obtain ⟨_, q2, _, _⟩ := h.anc b1 q
      omega
  have dmn : ∀ d, Dom E r d n → d ≠ n → Anc (upd f n b) b d := fun d hd hdn => lowB d (hb.top d fun k hk he => h.kid hk (hd.pred he hdn))
  refine ⟨.inl h.pr0, by rw [fo r (Ne.symm hn)]; exact h.f0, ?_, ?_, ?_, ?_⟩
  · rintro x (hx | rfl)
    · exact h.rc x hx
    · exact .step (h.rc k0 hk0) he0 trivial
  · intro x hx hxr
    by_cases q : x = n
    · subst q; rw [fn]; exact ⟨.inl b1, by omega⟩
    · rw [fo x q]
      obtain ⟨u1, u2⟩ := h.up x (hx.resolve_right q) hxr
      exact ⟨.inl u1, u2⟩
  · intro x hx hxr
    by_cases q : x = n
    · subst q; rw [fn]
      exact .step b4 he0 (by omega)
    · rw [fo x q]
      exact h.pa x (hx.resolve_right q) hxr
  · intro m hm hmr d hd hdm
    by_cases q : m = n
    · subst q; rw [fn]; exact dmn d hd hdm
    · rw [fo m q]
      have hm' := hm.resolve_right q
      rcases (h.dm m hm' hmr d hd hdm).split (n := n) (b := b) with s | ⟨s1, s2, s3⟩
      · exact s
      · obtain ⟨u1, u2⟩ := h.up m hm' hmr
        obtain ⟨p1, p2, p3, p4⟩ := h.anc u1 s2
        obtain ⟨v1, v2⟩ := h.up n p1 hn
        obtain ⟨_, x2, _, _⟩ := h.anc v1 s3
        have hdn : d ≠ n := fun e => by subst e; omega
        have hD : Dom E r d n := by
          intro hw
          apply hd
          refine hw.trans ?_
          have w1 : RW E (fun y => rank n ≤ rank y) n m := p4.trans ((h.pa m hm' hmr).mono fun y hy => by omega)
          exact w1.mono fun y hy e => by subst e; omega
        refine s1.trans (Anc.up ?_)
        rw [fn]
        exact dmn d hD hdn
/-- The rows that a slower way of reckoning would have. -/
structure DIn (E : Nat → Nat → Prop) (r : Nat) (f : Nat → Nat) (pr : Nat → Prop) (D : Nat → Nat → Prop) : Prop where
  self : ∀ n, D n n
  rt : ∀ d, D r d → d = r
  up : ∀ n, pr n → n ≠ r → ∀ d, D (f n) d → D n d
  post : ∀ n, n ≠ r → ∀ d, (d = n ∨ ∀ k, pr k → E k n → D k d) → D n d
theorem DIn.anc {D : Nat → Nat → Prop} (h : Inv E r rank f pr) (hd : DIn E r f pr D) {x a d : Nat} (hx : pr x) (ha : Anc f x a) (hD : D a d) : D x d := by
  refine Anc.ind (M := fun x => pr x → D x d) (fun _ => hD) ?_ x ha hx
  intro x hA ih hp
  by_cases q : x = r
  · subst q; rw [h.f0] at ih; exact ih hp
  · exact hd.up x hp q d (ih (h.up x hp q).1)
def updD (E : Nat → Nat → Prop) (pr : Nat → Prop) (D : Nat → Nat → Prop) (n x d : Nat) : Prop := if x = n then (d = n ∨ ∀ k, pr k → E k n → D k d) else D x d
theorem updD_le {D : Nat → Nat → Prop} (hd : DIn E r f pr D) {n : Nat} (hn : n ≠ r) {x d : Nat} (h : updD E pr D n x d) : D x d := by
  unfold updD at h
  by_cases q : x = n
  · subst q; rw [if_pos rfl] at h; exact hd.post x hn d h
  · rw [if_neg q] at h; exact h
theorem DIn.step {D : Nat → Nat → Prop} (h : Inv E r rank f pr) (hd : DIn E r f pr D) {n b : Nat} (hb : Best E rank f pr n b) (hn : n ≠ r) : DIn E r (upd f n b) (fun x => pr x ∨ x = n) (updD E pr D n) := by
  obtain ⟨k0, hk0, he0, hr0⟩ := hb.low
  obtain ⟨b1, b2, b3, b4⟩ := h.anc hk0 (hb.all k0 hk0 he0)
  have hbn : b ≠ n := fun e => by subst e; omega
  have eo : ∀ x d, x ≠ n → updD E pr D n x d = D x d := fun x d q => if_neg q
  have en : ∀ d, updD E pr D n n d = (d = n ∨ ∀ k, pr k → E k n → D k d) := fun d => if_pos rfl
  refine ⟨?_, ?_, ?_, ?_⟩
  · intro x
    by_cases q : x = n
    · subst q; rw [en]; exact .inl rfl
    · rw [eo _ _ q]; exact hd.self x
  · intro d hx
    rw [eo _ _ (Ne.symm hn)] at hx
    exact hd.rt d hx
  · intro x hx hxr d hD
    by_cases q : x = n
    · subst q
      rw [show upd f x b x = b from if_pos rfl, eo _ _ hbn] at hD
      rw [en]
      exact .inr fun k hk he => hd.anc h hk (hb.all k hk he) hD
    · rw [show upd f n b x = f x from if_neg q] at hD
      rw [eo _ _ q]
      exact hd.up x (hx.resolve_right q) hxr d (updD_le hd hn hD)
  · intro x hxr d hx
    by_cases q : x = n
    · subst q
      rw [en]
      rcases hx with hx | hx
      · exact .inl hx
      · exact .inr fun k hk he => updD_le hd hn (hx k (.inl hk) he)
    · rw [eo _ _ q]
      refine hd.post x hxr d ?_
      rcases hx with hx | hx
      · exact .inl hx
      · exact .inr fun k hk he => updD_le hd hn (hx k (.inl hk) he)
/-- f is right. -/
def Exact (E : Nat → Nat → Prop) (r : Nat) (f : Nat → Nat) : Prop := ∀ n, Rc E r n → n ≠ r → IDom E r (f n) n
theorem Best.exact (h : Inv E r rank f pr) (hall : ∀ n, Rc E r n → pr n) (hb : ∀ n, Rc E r n → n ≠ r → Best E rank f pr n (f n)) : Exact E r f := by
  -- what is above a node dominates it
  have key : ∀ n, Rc E r n → ∀ a, Anc f n a → RW E (· ≠ a) r n → False := by
    intro n hn a ha hw
    induction hw with
    | refl q => exact q (Anc.root h.f0 ha).symm
    | step hw e q ih =>
      rename_i x y
      by_cases q2 : y = r
      · subst q2
        exact q (Anc.root h.f0 ha).symm
      have hx : Rc E r x := hw.mono fun _ _ => trivial
      refine ih hx ?_
      rcases ha.cases with e' | ha'
      · exact absurd e'.symm q
      · exact ((hb y hn q2).all x (hall x hx) e).trans ha'
  intro n hn hr
  refine ⟨fun e => ?_, fun hw => key n hn (f n) (Anc.up (.self _)) hw, fun d hd hne => ?_⟩
  · have := (h.up n (hall n hn) hr).2
    rw [e] at this; omega
  · have := h.dm n (hall n hn) hr d hd hne
    exact fun hw => key (f n) (h.rc _ (h.up n (hall n hn) hr).1) d this hw
theorem DIn.exact {D : Nat → Nat → Prop} (h : Inv E r rank f pr) (hd : DIn E r f pr D) (hall : ∀ n, Rc E r n → pr n) (hq : ∀ n, Rc E r n → n ≠ r → ∀ d, Rc E r d → D n d → d = n ∨ ∀ k, pr k → E k n → D k d) : Exact E r f := by
  have key : ∀ n, Rc E r n → ∀ a, Rc E r a → D n a → RW E (· ≠ a) r n → False := by
    intro n hn a har ha hw
    induction hw with
    | refl q => exact q (hd.rt a ha).symm
    | step hw e q ih =>
      rename_i x y
      by_cases q2 : y = r
      · subst q2; exact q (hd.rt a ha).symm
      have hx : Rc E r x := hw.mono fun _ _ => trivial
      rcases hq y hn q2 a har ha with e' | hk
      · exact q e'.symm
      · exact ih hx (hk x (hall x hx) e)
  have ancD : ∀ n a, pr n → Anc f n a → D n a := fun n a hp ha => hd.anc h hp ha (hd.self a)
  intro n hn hr
  refine ⟨fun e => ?_, fun hw => key n hn (f n) (h.rc _ (h.up n (hall n hn) hr).1) (ancD n _ (hall n hn) (Anc.up (.self _))) hw, fun d hd hne => ?_⟩
  · have := (h.up n (hall n hn) hr).2
    rw [e] at this; omega
  · have h2 := h.dm n (hall n hn) hr d hd hne
    have h3 := (h.up n (hall n hn) hr).1
    exact fun hw => key (f n) (h.rc _ h3) d (h.rc _ (h.anc h3 h2).1) (ancD _ _ h3 h2) hw
theorem Exact.best (h : Inv E r rank f pr) (hall : ∀ n, Rc E r n → pr n) (hx : Exact E r f) {n b : Nat} (hn : Rc E r n) (hr : n ≠ r) (hb : Best E rank f pr n b) : b = f n := by
  have ancDom : ∀ n a, Rc E r n → Anc f n a → Dom E r a n := by
    intro n a hn ha
    refine Anc.ind (M := fun x => Rc E r x → Dom E r a x) (fun _ => Dom.self a) ?_ n ha hn
    intro x hA ih hp
    by_cases q : x = r
    · subst q; rw [h.f0] at ih; exact ih hp
    · exact (ih (h.rc _ (h.up x (hall x hp) q).1)).trans (hx x hp q).2.1
  obtain ⟨k0, hk0, he0, hr0⟩ := hb.low
  obtain ⟨b1, b2, b3, b4⟩ := h.anc hk0 (hb.all k0 hk0 he0)
  have hbn : b ≠ n := fun e => by subst e; omega
  refine IDom.uniq hn ⟨hbn, ?_, ?_⟩ (hx n hn hr)
  · intro hw
    cases hw with
    | refl q => exact hr rfl
    | step hw e q =>
      rename_i k
      have hk : Rc E r k := hw.mono fun _ _ => trivial
      exact ancDom k b hk (hb.all k (hall k hk) e) hw
  · intro d hd hdn
    exact ancDom b d (h.rc b b1) (hb.top d fun k hk he => h.kid hk (hd.pred he hdn))
end
section
/-! How much is left of the rows. -/
/-- How many below N have p. -/
noncomputable def cnt (p : Nat → Prop) : Nat → Nat
  | 0 => 0
  | N + 1 => cnt p N + (open Classical in if p N then 1 else 0)
theorem cnt_le {p q : Nat → Prop} (h : ∀ x, p x → q x) : ∀ N, cnt p N ≤ cnt q N
  | 0 => Nat.le_refl _
  | N + 1 => by
    have := cnt_le h N
    unfold cnt
    by_cases a : p N
    · rw [if_pos a, if_pos (h N a)]; omega
    · rw [if_neg a]; omega
theorem cnt_bd {p : Nat → Prop} : ∀ N, cnt p N ≤ N
  | 0 => Nat.le_refl _
  | N + 1 => by
    have := cnt_bd (p := p) N
    unfold cnt
    by_cases a : p N
    · rw [if_pos a]; omega
    · rw [if_neg a]; omega
theorem cnt_eq {p q : Nat → Prop} (h : ∀ x, p x → q x) : ∀ N, cnt p N = cnt q N → ∀ x, x < N → q x → p x
  | 0, _, x, hx, _ => by omega
  | N + 1, e, x, hx, hq => by
    have l := cnt_le h N
    unfold cnt at e
    by_cases a : p N
    · rw [if_pos a, if_pos (h N a)] at e
      rcases Nat.lt_or_ge x N with y | y
      · exact cnt_eq h N (by omega) x y hq
      · obtain rfl : x = N := by omega
        exact a
    · rw [if_neg a] at e
      by_cases b : q N
      · rw [if_pos b] at e; omega
      · rw [if_neg b] at e
        rcases Nat.lt_or_ge x N with y | y
        · exact cnt_eq h N (by omega) x y hq
        · obtain rfl : x = N := by omega
          exact absurd hq b
noncomputable def cnt2 (D : Nat → Nat → Prop) (N : Nat) : Nat → Nat
  | 0 => 0
  | M + 1 => cnt2 D N M + cnt (D M) N
theorem cnt2_le {D D' : Nat → Nat → Prop} (h : ∀ x d, D x d → D' x d) (N : Nat) : ∀ M, cnt2 D N M ≤ cnt2 D' N M
  | 0 => Nat.le_refl _
  | M + 1 => by
    have a := cnt2_le h N M
    have b := cnt_le (h M) N
    unfold cnt2; omega
theorem cnt2_eq {D D' : Nat → Nat → Prop} (h : ∀ x d, D x d → D' x d) (N : Nat) : ∀ M, cnt2 D N M = cnt2 D' N M → ∀ x d, x < M → d < N → D' x d → D x d
  | 0, _, x, d, hx, _, _ => by omega
  | M + 1, e, x, d, hx, hd, hq => by
    have a := cnt2_le h N M
    have b := cnt_le (h M) N
    unfold cnt2 at e
    rcases Nat.lt_or_ge x M with y | y
    · exact cnt2_eq h N M (by omega) x d y hd hq
    · obtain rfl : x = M := by omega
      exact cnt_eq (h x) N (by omega) d hd hq
/-! One round over all nodes. -/
variable {E : Nat → Nat → Prop} {r : Nat} {rank : Nat → Nat}
/-- What a round has done so far: nodes 1 .. i-1 of the order are through. -/
structure Rnd (E : Nat → Nat → Prop) (r : Nat) (rank : Nat → Nat) (N : Nat) (od : List Nat) (fs : Nat → Nat) (ps : Nat → Prop) (Ds : Nat → Nat → Prop) (i : Nat) (f : Nat → Nat) (pr : Nat → Prop) (D : Nat → Nat → Prop) (ch : Bool) : Prop where
  inv : Inv E r rank f pr
  din : DIn E r f pr D
  sub : ∀ x d, D x d → Ds x d
  mor : ∀ x, ps x → pr x
  pre : ∀ j n, j < i → od[j]? = some n → pr n
  same : ch = false → f = fs ∧ pr = ps ∧ ∀ j n, 0 < j → j < i → od[j]? = some n → Best E rank fs ps n (fs n)
  still : Exact E r fs → (∀ n, Rc E r n → ps n) → ch = false
  eqv : (∀ x d, x < N → d < N → Ds x d → D x d) → ∀ j n, 0 < j → j < i → od[j]? = some n → ∀ d, d < N → D n d → d = n ∨ ∀ k, ps k → E k n → D k d
/-- The order: each reached node once, the root ahead, each behind one that leads to it. -/
structure Od (E : Nat → Nat → Prop) (r : Nat) (rank : Nat → Nat) (od : List Nat) : Prop where
  at_ : ∀ n, Rc E r n → od[rank n]? = some n
  rc : ∀ j n, od[j]? = some n → Rc E r n ∧ rank n = j
  zero : od[0]? = some r
  par : ∀ n, Rc E r n → n ≠ r → ∃ k, Rc E r k ∧ E k n ∧ rank k < rank n
theorem Rnd.start {N : Nat} {od : List Nat} {f : Nat → Nat} {pr : Nat → Prop} {D : Nat → Nat → Prop} (h : Inv E r rank f pr) (hd : DIn E r f pr D) (ho : Od E r rank od) : Rnd E r rank N od f pr D 1 f pr D false :=
  ⟨h, hd, fun _ _ h => h, fun _ h => h, fun j n hj e => by
    obtain rfl : j = 0 := by omega
    rw [ho.zero] at e
    exact (Option.some.inj e) ▸ h.pr0, fun _ => ⟨rfl, rfl, fun j n h1 h2 _ => by omega⟩, fun _ _ => rfl, fun _ j n h1 h2 _ => by omega⟩
theorem Rnd.next {N : Nat} {od : List Nat} {fs f : Nat → Nat} {ps pr : Nat → Prop} {Ds D : Nat → Nat → Prop} {i : Nat} {ch : Bool} (h : Rnd E r rank N od fs ps Ds i f pr D ch) (ho : Od E r rank od) (hbd : ∀ n, Rc E r n → n < N) {n b : Nat} (hi : 0 < i) (hn : od[i]? = some n) (hb : Best E rank f pr n b) (ch' : Bool) (hch : ch' = false ↔ ch = false ∧ pr n ∧ f n = b) :
    Rnd E r rank N od fs ps Ds (i + 1) (upd f n b) (fun x => pr x ∨ x = n) (updD E pr D n) ch' := by
  have hnr : n ≠ r := by
    intro e
    subst e
    have h1 := (ho.rc _ _ hn).2
    have h2 := (ho.rc _ _ ho.zero).2
    omega
  have le := fun x d => updD_le (n := n) (x := x) (d := d) h.din hnr
  refine ⟨h.inv.step hb hnr, h.din.step h.inv hb hnr, fun x d hx => h.sub x d (le x d hx), fun x hx => .inl (h.mor x hx), ?_, ?_, ?_, ?_⟩
  · intro j m hj e
    rcases Nat.lt_or_ge j i with y | y
    · exact .inl (h.pre j m y e)
    · obtain rfl : j = i := by omega
      rw [hn] at e
      exact .inr (Option.some.inj e).symm
  · intro hc
    obtain ⟨c1, c2, c3⟩ := hch.1 hc
    obtain ⟨s1, s2, s3⟩ := h.same c1
    have ef : upd f n b = f := by
      funext x
      unfold upd
      by_cases q : x = n
      · rw [if_pos q, q, c3]
      · rw [if_neg q]
    have ep : (fun x => pr x ∨ x = n) = pr := by
      funext x
      exact propext ⟨fun q => q.elim id (fun q => q ▸ c2), .inl⟩
    rw [ef, ep]
    refine ⟨s1, s2, fun j m h1 h2 e => ?_⟩
    rcases Nat.lt_or_ge j i with y | y
    · exact s3 j m h1 y e
    · obtain rfl : j = i := by omega
      rw [hn] at e
      obtain rfl := Option.some.inj e
      rw [← s1, ← s2, c3]
      exact hb
  · intro hx hall
    have hc := h.still hx hall
    obtain ⟨s1, s2, s3⟩ := h.same hc
    have hrn := (ho.rc _ _ hn).1
    refine hch.2 ⟨hc, by rw [s2]; exact hall n hrn, ?_⟩
    have := Exact.best h.inv (by rw [s2]; exact hall) (by rw [s1]; exact hx) hrn hnr hb
    exact this.symm
  · intro hq j m h1 h2 e d hdN hd
    have hq' : ∀ x d, x < N → d < N → Ds x d → D x d := fun x d a b hx => le x d (hq x d a b hx)
    have back : ∀ x d, x < N → d < N → D x d → updD E pr D n x d := fun x d a b hx => hq x d a b (h.sub x d hx)
    have kN : ∀ k, ps k → k < N := fun k hk => hbd k (h.inv.rc k (h.mor k hk))
    rcases Nat.lt_or_ge j i with y | y
    · rcases h.eqv hq' j m h1 y e d hdN (le m d hd) with z | z
      · exact .inl z
      · exact .inr fun k hk he => back k d (kN k hk) hdN (z k hk he)
    · obtain rfl : j = i := by omega
      rw [hn] at e
      obtain rfl := Option.some.inj e
      unfold updD at hd
      rw [if_pos rfl] at hd
      rcases hd with z | z
      · exact .inl z
      · exact .inr fun k hk he => back k d (kN k hk) hdN (z k (h.mor k hk) he)
/-- How far the rounds are. -/
noncomputable def pot (E : Nat → Nat → Prop) (r N : Nat) (f : Nat → Nat) (pr : Nat → Prop) (D : Nat → Nat → Prop) : Nat :=
  2 * cnt2 D N N + (open Classical in if Exact E r f then 0 else 1) + (open Classical in if ∀ n, Rc E r n → pr n then 0 else 2)
/-- A round that has changed something leaves less to do; one that has not has come to the end. -/
theorem Rnd.done {od : List Nat} {fs f : Nat → Nat} {ps pr : Nat → Prop} {Ds D : Nat → Nat → Prop} {N : Nat} {ch : Bool} (h : Rnd E r rank N od fs ps Ds od.length f pr D ch) (ho : Od E r rank od) (hbd : ∀ n, Rc E r n → n < N) :
    (ch = false → Exact E r f ∧ ∀ n, Rc E r n → pr n) ∧ (ch = true → pot E r N f pr D < pot E r N fs ps Ds) := by
  have hall : ∀ n, Rc E r n → pr n := fun n hn => h.pre (rank n) n (by
    have := ho.at_ n hn
    exact (List.getElem?_eq_some_iff.1 this).1) (ho.at_ n hn)
  have hidx : ∀ n, Rc E r n → n ≠ r → 0 < rank n ∧ rank n < od.length := fun n hn hr => by
    have h1 := ho.at_ n hn
    refine ⟨?_, (List.getElem?_eq_some_iff.1 h1).1⟩
    rcases Nat.eq_zero_or_pos (rank n) with z | z
    · rw [z, ho.zero] at h1; exact absurd (Option.some.inj h1).symm hr
    · exact z
  have hs : ch = true → (¬ (∀ n, Rc E r n → ps n)) ∨ ¬ Exact E r fs := fun hc => by
    by_cases q1 : ∀ n, Rc E r n → ps n
    · by_cases q2 : Exact E r fs
      · have := h.still q2 q1; rw [hc] at this; cases this
      · exact .inr q2
    · exact .inl q1
  refine ⟨fun hc => ⟨?_, hall⟩, fun hc => ?_⟩
  · obtain ⟨s1, s2, s3⟩ := h.same hc
    refine Best.exact h.inv hall fun n hn hr => ?_
    rw [s1, s2]
    exact s3 (rank n) n (hidx n hn hr).1 (hidx n hn hr).2 (ho.at_ n hn)
  · have l := cnt2_le h.sub N N
    replace hs := hs hc
    unfold pot
    rw [if_pos hall]
    by_cases e : cnt2 D N N = cnt2 Ds N N
    · have hq : ∀ x d, x < N → d < N → Ds x d → D x d := fun x d a b hx => cnt2_eq h.sub N N e x d a b hx
      by_cases hp : ∀ n, Rc E r n → ps n
      · have hx : Exact E r f := DIn.exact h.inv h.din hall fun n hn hr d hrd hd => by
          rcases h.eqv hq (rank n) n (hidx n hn hr).1 (hidx n hn hr).2 (ho.at_ n hn) d (hbd d hrd) hd with z | z
          · exact .inl z
          · exact .inr fun k hk he => z k (hp k (h.inv.rc k hk)) he
        rw [if_pos hx, if_neg (hs.resolve_left fun g => g hp), if_pos hp]
        omega
      · rw [if_neg hp]
        split <;> split <;> omega
    · by_cases hp : ∀ n, Rc E r n → ps n
      · rw [if_pos hp]
        split <;> split <;> omega
      · rw [if_neg hp]
        split <;> split <;> omega
end
section
variable {E : Nat → Nat → Prop} {r : Nat} {rank f : Nat → Nat} {pr : Nat → Prop}
/-! The nearest that two have above them. -/
structure Meet (f : Nat → Nat) (pr : Nat → Prop) (a0 b0 a b : Nat) : Prop where
  pa : pr a
  pb : pr b
  la : Anc f a0 a
  lb : Anc f b0 b
  top : ∀ c, Anc f a0 c → Anc f b0 c → Anc f a c ∧ Anc f b c
theorem Meet.start {a b : Nat} (ha : pr a) (hb : pr b) : Meet f pr a b a b := ⟨ha, hb, .self _, .self _, fun _ h1 h2 => ⟨h1, h2⟩⟩
theorem Meet.symm {a0 b0 a b : Nat} (h : Meet f pr a0 b0 a b) : Meet f pr b0 a0 b a := ⟨h.pb, h.pa, h.lb, h.la, fun c h1 h2 => (h.top c h2 h1).symm⟩
theorem Meet.stepA (hi : Inv E r rank f pr) (h0 : rank r = 0) {a0 b0 a b : Nat} (h : Meet f pr a0 b0 a b) (hr : rank b < rank a) : Meet f pr a0 b0 (f a) b ∧ rank (f a) < rank a := by
  have hne : a ≠ r := fun e => by subst e; omega
  obtain ⟨u1, u2⟩ := hi.up a h.pa hne
  refine ⟨⟨u1, h.pb, h.la.trans (Anc.up (.self _)), h.lb, fun c c1 c2 => ?_⟩, u2⟩
  obtain ⟨t1, t2⟩ := h.top c c1 c2
  refine ⟨?_, t2⟩
  rcases t1.cases with e | t
  · subst e
    obtain ⟨_, q, _⟩ := hi.anc h.pb t2
    omega
  · exact t
/-! The best of those that a row has. -/
inductive Bst (f : Nat → Nat) (pr : Nat → Prop) (ks : List Nat) : Option Nat → Prop
  | no : (∀ k ∈ ks, ¬ pr k) → Bst f pr ks none
  | yes {b : Nat} : pr b → (∀ k ∈ ks, pr k → Anc f k b) → (∀ c, (∀ k ∈ ks, pr k → Anc f k c) → Anc f b c) → Bst f pr ks (some b)
theorem Bst.nil : Bst f pr [] none := .no (by simp)
theorem Bst.skip {ks : List Nat} {o : Option Nat} {k : Nat} (h : Bst f pr ks o) (hk : ¬ pr k) : Bst f pr (ks ++ [k]) o := by
  cases h with
  | no h =>
    exact .no fun x hx => by
      rcases List.mem_append.1 hx with y | y
      · exact h x y
      · rw [List.mem_singleton] at y; exact y ▸ hk
  | yes h1 h2 h3 =>
    refine .yes h1 (fun x hx hp => ?_) (fun c hc => h3 c fun x hx hp => hc x (List.mem_append.2 (.inl hx)) hp)
    rcases List.mem_append.1 hx with y | y
    · exact h2 x y hp
    · rw [List.mem_singleton] at y; exact absurd hp (y ▸ hk)
theorem Bst.first {ks : List Nat} {k : Nat} (h : Bst f pr ks none) (hk : pr k) : Bst f pr (ks ++ [k]) (some k) := by
  cases h with
  | no h =>
    refine .yes hk (fun x hx hp => ?_) (fun c hc => hc k (by simp) hk)
    rcases List.mem_append.1 hx with y | y
    · exact absurd hp (h x y)
    · rw [List.mem_singleton] at y; exact y ▸ .self _
theorem Bst.more {ks : List Nat} {k b m : Nat} (h : Bst f pr ks (some b)) (hk : pr k) (hm : Meet f pr b k m m) : Bst f pr (ks ++ [k]) (some m) := by
  cases h with
  | yes h1 h2 h3 =>
    refine .yes hm.pa (fun x hx hp => ?_) (fun c hc => ?_)
    · rcases List.mem_append.1 hx with y | y
      · exact (h2 x y hp).trans hm.la
      · rw [List.mem_singleton] at y; exact y ▸ hm.lb
    · exact (hm.top c (h3 c fun x hx hp => hc x (List.mem_append.2 (.inl hx)) hp) (hc k (by simp) hk)).1
theorem Bst.best {ks : List Nat} {n : Nat} {o : Option Nat} (h : Bst f pr ks o) (hks : ∀ k, k ∈ ks ↔ Rc E r k ∧ E k n) (hi : Inv E r rank f pr) (hl : ∃ k, pr k ∧ E k n ∧ rank k < rank n) : ∃ b, o = some b ∧ pr b ∧ Best E rank f pr n b := by
  cases h with
  | no h =>
    obtain ⟨k, k1, k2, _⟩ := hl
    exact absurd k1 (h k ((hks k).2 ⟨hi.rc k k1, k2⟩))
  | yes h1 h2 h3 =>
    exact ⟨_, rfl, h1, hl, fun k hk he => h2 k ((hks k).2 ⟨hi.rc k hk, he⟩) hk, fun c hc => h3 c fun k hk hp => hc k hp ((hks k).1 hk).2⟩
/-! The least of what is left. -/
theorem least (P : Nat → Prop) (h : ∃ k, P k) : ∃ k, P k ∧ ∀ j, P j → k ≤ j := by
  obtain ⟨k, hk⟩ := h
  induction k using Nat.strongRecOn with
  | ind k ih =>
    by_cases q : ∃ j, j < k ∧ P j
    · obtain ⟨j, h1, h2⟩ := q
      exact ih j h1 h2
    · exact ⟨k, hk, fun j hj => by
        rcases Nat.lt_or_ge j k with y | y
        · exact absurd ⟨j, y, hj⟩ q
        · exact y⟩
noncomputable def potM (E : Nat → Nat → Prop) (r N : Nat) (f : Nat → Nat) (pr : Nat → Prop) : Nat :=
  open Classical in if h : ∃ k, ∃ D, DIn E r f pr D ∧ pot E r N f pr D = k then Classical.choose (least _ h) else 0
theorem potM_is {N : Nat} {D : Nat → Nat → Prop} (hd : DIn E r f pr D) : ∃ D', DIn E r f pr D' ∧ pot E r N f pr D' = potM E r N f pr := by
  have h : ∃ k, ∃ D, DIn E r f pr D ∧ pot E r N f pr D = k := ⟨_, D, hd, rfl⟩
  unfold potM
  rw [dif_pos h]
  exact (Classical.choose_spec (least _ h)).1
theorem potM_le {N : Nat} {D : Nat → Nat → Prop} (hd : DIn E r f pr D) : potM E r N f pr ≤ pot E r N f pr D := by
  have h : ∃ k, ∃ D, DIn E r f pr D ∧ pot E r N f pr D = k := ⟨_, D, hd, rfl⟩
  unfold potM
  rw [dif_pos h]
  exact (Classical.choose_spec (least _ h)).2 _ ⟨D, hd, rfl⟩
/-- The rounds begin. -/
theorem Inv.init {rank : Nat → Nat} : Inv E r rank (fun _ => r) (· = r) :=
  ⟨rfl, rfl, fun n h => h ▸ .refl trivial, fun n h q => absurd h q, fun n h q => absurd h q, fun n h q => absurd h q⟩
theorem Inv.init' {rank f : Nat → Nat} (hf : f r = r) : Inv E r rank f (· = r) :=
  ⟨rfl, hf, fun n h => h ▸ .refl trivial, fun n h q => absurd h q, fun n h q => absurd h q, fun n h q => absurd h q⟩
theorem DIn.init {f : Nat → Nat} : DIn E r f (· = r) (fun x d => x = r → d = r) :=
  ⟨fun n h => h, fun d h => h rfl, fun n h q => absurd h q, fun n q d _ h => absurd h q⟩
end
section
variable {E : Nat → Nat → Prop} {r : Nat}
/-! The nodes, in the order in which they are left. -/
def ats (st : List (Nat × List Nat)) : List Nat := st.map Prod.fst
structure Dfs (E : Nat → Nat → Prop) (r : Nat) (st : List (Nat × List Nat)) (post : List Nat) (seen : Nat → Prop) : Prop where
  nd : (post ++ ats st).Nodup
  sn : ∀ x, seen x ↔ x ∈ post ∨ x ∈ ats st
  rc : ∀ x, seen x → Rc E r x
  cl : ∀ x ∈ post, ∀ y, E x y → seen y
  kd : ∀ p ∈ st, (∀ y, E p.1 y → seen y ∨ y ∈ p.2) ∧ ∀ y ∈ p.2, E p.1 y
  ch : ∀ (i x y : Nat), (ats st)[i]? = some x → (ats st)[i + 1]? = some y → E x y
  bt : (ats st)[0]? = some r ∨ (st = [] ∧ ∃ l, post = l ++ [r])
  par : ∀ (i x : Nat), post[i]? = some x → x ≠ r → ∃ k, E k x ∧ (k ∈ ats st ∨ ∃ j : Nat, i < j ∧ post[j]? = some k)
theorem ats_app (a b : List (Nat × List Nat)) : ats (a ++ b) = ats a ++ ats b := List.map_append
theorem Dfs.start {ks : List Nat} (h1 : ∀ y, y ∈ ks ↔ E r y) : Dfs E r [(r, ks)] [] (· = r) :=
  ⟨by simp [ats], fun x => by simp [ats], fun x h => h ▸ .refl trivial, fun x h => (by cases h), fun p hp => (by
    rw [List.mem_singleton] at hp; subst hp
    exact ⟨fun y hy => .inr ((h1 y).2 hy), fun y hy => (h1 y).1 hy⟩), fun i x y h1 h2 => by simp [ats] at h2, .inl rfl, fun i x h => by simp at h⟩
theorem Dfs.pop {st : List (Nat × List Nat)} {post : List Nat} {seen : Nat → Prop} {a : Nat} (h : Dfs E r (st ++ [(a, [])]) post seen) : Dfs E r st (post ++ [a]) seen := by
  have e : ats (st ++ [(a, [])]) = ats st ++ [a] := by rw [ats_app]; rfl
  have hnil : st = [] → a = r := fun q => by
    subst q
    rcases h.bt with b | ⟨b, _⟩
    · simpa [ats] using b
    · simp at b
  refine ⟨?_, fun x => ?_, h.rc, fun x hx y hy => ?_, fun p hp => h.kd p (List.mem_append.2 (.inl hp)), fun i x y h1 h2 => ?_, ?_, fun i x hi hx => ?_⟩
  · have := h.nd
    rw [e] at this
    refine List.Perm.nodup ?_ this
    rw [List.append_assoc]
    exact (List.perm_append_comm).append_left post
  · rw [h.sn x, e, List.mem_append, List.mem_append, or_assoc, or_comm (a := x ∈ ats st)]
  · rcases List.mem_append.1 hx with z | z
    · exact h.cl x z y hy
    · rw [List.mem_singleton] at z; subst z
      rcases (h.kd (x, []) (List.mem_append.2 (.inr (by simp)))).1 y hy with q | q
      · exact q
      · cases q
  · refine h.ch i x y ?_ ?_
    · rw [e, List.getElem?_append_left (List.getElem?_eq_some_iff.1 h1).1]; exact h1
    · rw [e, List.getElem?_append_left (List.getElem?_eq_some_iff.1 h2).1]; exact h2
  · by_cases q : st = []
    · exact .inr ⟨q, post, by rw [hnil q]⟩
    · refine .inl ?_
      rcases h.bt with b | ⟨b, _⟩
      · rw [e, List.getElem?_append_left (by unfold ats; rw [List.length_map]; exact List.length_pos_iff.2 q)] at b
        exact b
      · simp at b
  · rcases Nat.lt_or_ge i post.length with y | y
    · rw [List.getElem?_append_left y] at hi
      obtain ⟨k, k1, k2⟩ := h.par i x hi hx
      refine ⟨k, k1, ?_⟩
      rcases k2 with k2 | ⟨j, j1, j2⟩
      · rw [e] at k2
        rcases List.mem_append.1 k2 with z | z
        · exact .inl z
        · rw [List.mem_singleton] at z; subst z
          exact .inr ⟨post.length, y, by rw [List.getElem?_append_right (Nat.le_refl _)]; simp⟩
      · exact .inr ⟨j, j1, by rw [List.getElem?_append_left (List.getElem?_eq_some_iff.1 j2).1]; exact j2⟩
    · rw [List.getElem?_append_right y] at hi
      obtain ⟨z, hz⟩ : ∃ z, i - post.length = z := ⟨_, rfl⟩
      rw [hz] at hi
      cases z with
      | succ z => simp at hi
      | zero =>
        have hxa : a = x := by simpa using hi
        subst hxa
        have hne : st ≠ [] := fun q => hx (hnil q)
        have hl : 0 < (ats st).length := by unfold ats; rw [List.length_map]; exact List.length_pos_iff.2 hne
        have hg : (ats st)[(ats st).length - 1]? = some ((ats st)[(ats st).length - 1]'(by omega)) := List.getElem?_eq_getElem _
        refine ⟨_, h.ch ((ats st).length - 1) _ a ?_ ?_, .inl (List.mem_of_getElem? hg)⟩
        · rw [e, List.getElem?_append_left (by omega)]; exact hg
        · rw [e, List.getElem?_append_right (by omega)]
          have : (ats st).length - 1 + 1 - (ats st).length = 0 := by omega
          rw [this]; rfl
theorem Dfs.skip {st : List (Nat × List Nat)} {post ks : List Nat} {seen : Nat → Prop} {a y : Nat} (h : Dfs E r (st ++ [(a, y :: ks)]) post seen) (hs : seen y) : Dfs E r (st ++ [(a, ks)]) post seen := by
  have e : ats (st ++ [(a, y :: ks)]) = ats (st ++ [(a, ks)]) := by rw [ats_app, ats_app]; rfl
  refine ⟨by rw [← e]; exact h.nd, fun x => by rw [← e]; exact h.sn x, h.rc, h.cl, fun p hp => ?_, by rw [← e]; exact h.ch, ?_, fun i x hi hx => by rw [← e]; exact h.par i x hi hx⟩
  · rcases List.mem_append.1 hp with z | z
    · exact h.kd p (List.mem_append.2 (.inl z))
    · rw [List.mem_singleton] at z; subst z
      obtain ⟨k1, k2⟩ := h.kd (a, y :: ks) (List.mem_append.2 (.inr (by simp)))
      refine ⟨fun x hx => ?_, fun x hx => k2 x (by simp [hx])⟩
      rcases k1 x hx with q | q
      · exact .inl q
      · rcases List.mem_cons.1 q with q | q
        · exact .inl (q ▸ hs)
        · exact .inr q
  · rcases h.bt with b | ⟨b, _⟩
    · exact .inl (e ▸ b)
    · simp at b
theorem Dfs.push {st : List (Nat × List Nat)} {post ks kn : List Nat} {seen : Nat → Prop} {a y : Nat} (h : Dfs E r (st ++ [(a, y :: ks)]) post seen) (hs : ¬ seen y) (hkn : ∀ z, z ∈ kn ↔ E y z) : Dfs E r (st ++ [(a, ks)] ++ [(y, kn)]) post (fun x => seen x ∨ x = y) := by
  have e : ats (st ++ [(a, y :: ks)]) = ats (st ++ [(a, ks)]) := by rw [ats_app, ats_app]; rfl
  have e2 : ats (st ++ [(a, ks)] ++ [(y, kn)]) = ats (st ++ [(a, ks)]) ++ [y] := by rw [ats_app]; rfl
  have hay : E a y := (h.kd (a, y :: ks) (List.mem_append.2 (.inr (by simp)))).2 y (by simp)
  have hlen : (ats (st ++ [(a, ks)])).length = st.length + 1 := by unfold ats; simp
  have hlast : (ats (st ++ [(a, ks)]))[st.length]? = some a := by
    rw [ats_app, List.getElem?_append_right (by unfold ats; simp)]
    unfold ats; simp
  have hny : y ∉ post ∧ y ∉ ats (st ++ [(a, ks)]) := by
    rw [h.sn y, e] at hs
    exact ⟨fun q => hs (.inl q), fun q => hs (.inr q)⟩
  refine ⟨?_, fun x => ?_, ?_, fun x hx z hz => .inl (h.cl x hx z hz), fun p hp => ?_, fun i x z h1 h2 => ?_, ?_, fun i x hi hx => ?_⟩
  · have := h.nd
    rw [e] at this
    rw [e2, ← List.append_assoc, List.nodup_append]
    refine ⟨this, by simp, fun u hu v hv => ?_⟩
    rw [List.mem_singleton] at hv
    subst hv
    rintro rfl
    rcases List.mem_append.1 hu with z | z
    · exact hny.1 z
    · exact hny.2 z
  · rw [h.sn x, e, e2, List.mem_append, List.mem_singleton, or_assoc]
  · rintro x (hx | rfl)
    · exact h.rc x hx
    · have : seen a := by rw [h.sn a, e]; exact .inr (List.mem_of_getElem? hlast)
      exact .step (h.rc a this) hay trivial
  · rcases List.mem_append.1 hp with z | z
    · rcases List.mem_append.1 z with z | z
      · obtain ⟨k1, k2⟩ := h.kd p (List.mem_append.2 (.inl z))
        exact ⟨fun x hx => (k1 x hx).elim (fun q => .inl (.inl q)) .inr, k2⟩
      · rw [List.mem_singleton] at z; subst z
        obtain ⟨k1, k2⟩ := h.kd (a, y :: ks) (List.mem_append.2 (.inr (by simp)))
        refine ⟨fun x hx => ?_, fun x hx => k2 x (by simp [hx])⟩
        rcases k1 x hx with q | q
        · exact .inl (.inl q)
        · rcases List.mem_cons.1 q with q | q
          · exact .inl (.inr q)
          · exact .inr q
    · rw [List.mem_singleton] at z; subst z
      exact ⟨fun x hx => .inr ((hkn x).2 hx), fun x hx => (hkn x).1 hx⟩
  · rw [e2] at h1 h2
    have hi : i + 1 < st.length + 2 := by have := (List.getElem?_eq_some_iff.1 h2).1; rw [List.length_append, hlen] at this; simpa using this
    rw [List.getElem?_append_left (by omega)] at h1
    rcases Nat.lt_or_ge (i + 1) (st.length + 1) with q | q
    · rw [List.getElem?_append_left (by omega)] at h2
      exact h.ch i x z (e ▸ h1) (e ▸ h2)
    · obtain rfl : i = st.length := by omega
      rw [hlast] at h1
      rw [List.getElem?_append_right (by omega), show st.length + 1 - (ats (st ++ [(a, ks)])).length = 0 from by omega] at h2
      have h2' : y = z := by simpa using h2
      rw [← Option.some.inj h1, ← h2']
      exact hay
  · refine .inl ?_
    rw [e2, List.getElem?_append_left (by omega)]
    rcases h.bt with b | ⟨b, _⟩
    · exact e ▸ b
    · simp at b
  · obtain ⟨k, k1, k2⟩ := h.par i x hi hx
    refine ⟨k, k1, ?_⟩
    rcases k2 with k2 | k2
    · rw [e] at k2; exact .inl (by rw [e2]; exact List.mem_append.2 (.inl k2))
    · exact .inr k2
/-- At the end: what is reached, in an order that serves. -/
theorem Dfs.done {post : List Nat} {seen : Nat → Prop} {rank : Nat → Nat} (h : Dfs E r [] post seen) (hr : ∀ j x, post.reverse[j]? = some x → rank x = j) : Od E r rank post.reverse ∧ ∀ x, Rc E r x ↔ x ∈ post := by
  obtain ⟨l, hl⟩ : ∃ l, post = l ++ [r] := by
    rcases h.bt with b | ⟨_, b⟩
    · simp [ats] at b
    · exact b
  have mem : ∀ x, Rc E r x ↔ x ∈ post := by
    intro x
    refine ⟨fun hx => ?_, fun hx => h.rc x ((h.sn x).2 (.inl hx))⟩
    induction hx with
    | refl _ => rw [hl]; simp
    | step _ e _ ih =>
      have := h.cl _ ih _ e
      rw [h.sn] at this
      rcases this with q | q
      · exact q
      · simp [ats] at q
  have at_ : ∀ n, Rc E r n → post.reverse[rank n]? = some n := by
    intro n hn
    have hm : n ∈ post.reverse := List.mem_reverse.2 ((mem n).1 hn)
    obtain ⟨j, hj⟩ := List.getElem?_of_mem hm
    rw [hr j n hj]
    exact hj
  refine ⟨⟨at_, fun j n hj => ⟨(mem n).2 (List.mem_reverse.1 (List.mem_of_getElem? hj)), hr j n hj⟩, by rw [hl]; simp, fun n hn hne => ?_⟩, mem⟩
  obtain ⟨i, hi⟩ := List.getElem?_of_mem ((mem n).1 hn)
  obtain ⟨k, k1, k2⟩ := h.par i n hi hne
  rcases k2 with k2 | ⟨j, j1, j2⟩
  · simp [ats] at k2
  · have il := (List.getElem?_eq_some_iff.1 hi).1
    have jl := (List.getElem?_eq_some_iff.1 j2).1
    refine ⟨k, (mem k).2 (List.mem_of_getElem? j2), k1, ?_⟩
    have r1 : rank n = post.length - 1 - i := hr _ n (by rw [List.getElem?_reverse (by omega), show post.length - 1 - (post.length - 1 - i) = i from by omega]; exact hi)
    have r2 : rank k = post.length - 1 - j := hr _ k (by rw [List.getElem?_reverse (by omega), show post.length - 1 - (post.length - 1 - j) = j from by omega]; exact j2)
    omega
end
section
variable {E : Nat → Nat → Prop} {r : Nat}
/-! The reference's way: the dominator with most dominators of its own. -/
theorem filter_le {p q : Nat → Bool} {l : List Nat} (h : ∀ x ∈ l, p x = true → q x = true) : (l.filter p).length ≤ (l.filter q).length := by
  induction l with
  | nil => exact Nat.le_refl _
  | cons a l ih =>
    have := ih (fun x hx => h x (by simp [hx]))
    by_cases a1 : p a = true
    · rw [List.filter_cons_of_pos a1, List.filter_cons_of_pos (h a (by simp) a1)]; simpa using this
    · rw [List.filter_cons_of_neg a1]
      by_cases a2 : q a = true
      · rw [List.filter_cons_of_pos a2]; simp; omega
      · rw [List.filter_cons_of_neg a2]; exact this
theorem filter_lt {p q : Nat → Bool} {l : List Nat} (h : ∀ x ∈ l, p x = true → q x = true) {y : Nat} (hy : y ∈ l) (h1 : q y = true) (h2 : p y = false) : (l.filter p).length < (l.filter q).length := by
  induction l with
  | nil => cases hy
  | cons a l ih =>
    have hl := fun x (hx : x ∈ l) => h x (by simp [hx])
    have le := filter_le hl
    rcases List.mem_cons.1 hy with e | e
    · subst e
      rw [List.filter_cons_of_neg (by simp [h2]), List.filter_cons_of_pos h1]; simp; omega
    · have := ih hl e
      by_cases a1 : p a = true
      · rw [List.filter_cons_of_pos a1, List.filter_cons_of_pos (h a (by simp) a1)]; simpa using this
      · rw [List.filter_cons_of_neg a1]
        by_cases a2 : q a = true
        · rw [List.filter_cons_of_pos a2]; simp; omega
        · rw [List.filter_cons_of_neg a2]; exact this
open Classical in
/-- Is it so? -/
noncomputable def dc (p : Prop) : Bool := if p then true else false
theorem dc_iff {p : Prop} : dc p = true ↔ p := by unfold dc; by_cases h : p <;> simp [h]
theorem dc_no {p : Prop} : dc p = false ↔ ¬ p := by unfold dc; by_cases h : p <;> simp [h]
theorem dc_eq {p q : Prop} (h : p ↔ q) : dc p = dc q := by unfold dc; by_cases h1 : p <;> simp [h1, ← h]
/-- Those that dominate a node, but itself. -/
noncomputable def byL (E : Nat → Nat → Prop) (r n b : Nat) : List Nat := (List.range n).filter (fun a => dc (Rc E r a ∧ Rc E r b ∧ Dom E r a b ∧ a ≠ b))
theorem mem_byL {n a b : Nat} (hn : ∀ x, Rc E r x → x < n) : a ∈ byL E r n b ↔ Rc E r a ∧ Rc E r b ∧ Dom E r a b ∧ a ≠ b := by
  unfold byL
  rw [List.mem_filter, List.mem_range, dc_iff]
  exact ⟨fun h => h.2, fun h => ⟨hn a h.1, h⟩⟩
/-- The best so far. -/
def BestR (E : Nat → Nat → Prop) (r n : Nat) (l : List Nat) (o : Option Nat) : Prop := (o = none ∧ l = []) ∨ ∃ a, o = some a ∧ a ∈ l ∧ ∀ d ∈ l, (byL E r n d).length ≤ (byL E r n a).length
theorem BestR.nil {n : Nat} : BestR E r n [] none := .inl ⟨rfl, rfl⟩
theorem BestR.first {n a : Nat} {l : List Nat} (h : BestR E r n l none) : BestR E r n (l ++ [a]) (some a) := by
  rcases h with ⟨_, e⟩ | ⟨_, e, _⟩
  · subst e
    exact .inr ⟨a, rfl, by simp, fun d hd => by rw [List.nil_append, List.mem_singleton] at hd; rw [hd]; exact Nat.le_refl _⟩
  · cases e
theorem BestR.take {n a o : Nat} {l : List Nat} (h : BestR E r n l (some o)) (hl : (byL E r n o).length < (byL E r n a).length) : BestR E r n (l ++ [a]) (some a) := by
  rcases h with ⟨e, _⟩ | ⟨o', e, h1, h2⟩
  · cases e
  · cases e
    refine .inr ⟨a, rfl, by simp, fun d hd => ?_⟩
    rcases List.mem_append.1 hd with z | z
    · have := h2 d z; omega
    · rw [List.mem_singleton] at z; rw [z]; exact Nat.le_refl _
theorem BestR.keep {n a o : Nat} {l : List Nat} (h : BestR E r n l (some o)) (hl : (byL E r n a).length ≤ (byL E r n o).length) : BestR E r n (l ++ [a]) (some o) := by
  rcases h with ⟨e, _⟩ | ⟨o', e, h1, h2⟩
  · cases e
  · cases e
    refine .inr ⟨o, rfl, List.mem_append.2 (.inl h1), fun d hd => ?_⟩
    rcases List.mem_append.1 hd with z | z
    · exact h2 d z
    · rw [List.mem_singleton] at z; rw [z]; exact hl
theorem BestR.idom {n a b : Nat} (hn : ∀ x, Rc E r x → x < n) (h : BestR E r n (byL E r n b) (some a)) : IDom E r a b := by
  rcases h with ⟨e, _⟩ | ⟨a', e, h1, h2⟩
  · cases e
  · cases e
    obtain ⟨m1, m2, m3, m4⟩ := (mem_byL hn).1 h1
    refine ⟨m4, m3, fun d hd hne => ?_⟩
    rcases Dom.chain m2 hd m3 with c | c
    · exact c
    · by_cases q : d = a
      · subst q; exact Dom.self _
      · exfalso
        have hrd := hd.rc m2
        have := h2 d ((mem_byL hn).2 ⟨hrd, m2, hd, hne⟩)
        have lt : (byL E r n a).length < (byL E r n d).length := by
          unfold byL
          refine filter_lt (y := a) (fun x hx hp => ?_) (List.mem_range.2 (hn a m1)) ?_ ?_
          · rw [dc_iff] at hp ⊢
            refine ⟨hp.1, hrd, hp.2.2.1.trans c, fun e => ?_⟩
            subst e
            exact q (Dom.anti hrd hp.2.2.1 c)
          · rw [dc_iff]; exact ⟨m1, hrd, c, fun e => q e.symm⟩
          · rw [dc_no]; exact fun g => g.2.2.2 rfl
        omega
theorem byL_nil {n b : Nat} (hn : ∀ x, Rc E r x → x < n) (hr : r < n) : byL E r n b = [] ↔ ¬ (Rc E r b ∧ b ≠ r) := by
  constructor
  · rintro h ⟨h1, h2⟩
    have : r ∈ byL E r n b := (mem_byL hn).2 ⟨.refl trivial, h1, Dom.root b, Ne.symm h2⟩
    rw [h] at this; cases this
  · intro h
    rcases hl : byL E r n b with _ | ⟨a, l⟩
    · rfl
    · have : a ∈ byL E r n b := by rw [hl]; simp
      obtain ⟨m1, m2, m3, m4⟩ := (mem_byL hn).1 this
      exact absurd ⟨m2, fun e => by subst e; exact m3 (.refl (Ne.symm m4))⟩ h
/-- The row of dominators that both give. -/
noncomputable def domF (E : Nat → Nat → Prop) (r b : Nat) : Int := open Classical in if h : Rc E r b ∧ ∃ a, IDom E r a b then (Classical.choose h.2 : Nat) else -1
theorem IDom.root {a : Nat} (h : IDom E r a r) : False := h.2.1 (.refl (Ne.symm h.1))
theorem domF_of {a b : Nat} (hb : Rc E r b) (h : IDom E r a b) : domF E r b = a := by
  unfold domF
  rw [dif_pos ⟨hb, a, h⟩]
  exact congrArg Nat.cast (IDom.uniq hb (Classical.choose_spec (⟨a, h⟩ : ∃ a, IDom E r a b)) h)
theorem domF_no {b : Nat} (h : ¬ (Rc E r b ∧ b ≠ r)) : domF E r b = -1 := by
  unfold domF
  rw [dif_neg]
  rintro ⟨h1, a, h2⟩
  exact h ⟨h1, fun e => by subst e; exact h2.root⟩
end
section
variable {E : Nat → Nat → Prop} {r n : Nat}
theorem BestR.ex : ∀ l : List Nat, l ≠ [] → ∃ a, BestR E r n l (some a) := by
  intro l hl
  have key : ∀ l' : List Nat, l' = [] ∨ ∃ a, BestR E r n l'.reverse (some a) := by
    intro l'
    induction l' with
    | nil => exact .inl rfl
    | cons x l' ih =>
      refine .inr ?_
      rw [List.reverse_cons]
      rcases ih with e | ⟨a, ha⟩
      · subst e
        exact ⟨x, BestR.first BestR.nil⟩
      · rcases Nat.lt_or_ge (byL E r n a).length (byL E r n x).length with q | q
        · exact ⟨x, ha.take q⟩
        · exact ⟨a, ha.keep q⟩
  rcases key l.reverse with e | ⟨a, ha⟩
  · exact absurd (List.reverse_eq_nil_iff.1 e) hl
  · exact ⟨a, by rw [List.reverse_reverse] at ha; exact ha⟩
theorem IDom.ex {b : Nat} (hn : ∀ x, Rc E r x → x < n) (hb : Rc E r b) (hne : b ≠ r) : ∃ a, IDom E r a b := by
  have hr : r < n := hn r (.refl trivial)
  have : byL E r n b ≠ [] := fun e => (byL_nil hn hr).1 e ⟨hb, hne⟩
  obtain ⟨a, ha⟩ := BestR.ex (E := E) (r := r) (n := n) _ this
  exact ⟨a, ha.idom hn⟩
theorem IDom.lt {a b : Nat} (hn : ∀ x, Rc E r x → x < n) (hb : Rc E r b) (h : IDom E r a b) : (byL E r n a).length < (byL E r n b).length := by
  have ha := h.2.1.rc hb
  unfold byL
  refine filter_lt (y := a) (fun x hx hp => ?_) (List.mem_range.2 (hn a ha)) ?_ ?_
  · rw [dc_iff] at hp ⊢
    refine ⟨hp.1, hb, hp.2.2.1.trans h.2.1, fun e => ?_⟩
    subst e
    exact h.1 (Dom.anti ha h.2.1 hp.2.2.1)
  · rw [dc_iff]; exact ⟨ha, hb, h.2.1, h.1⟩
  · rw [dc_no]; exact fun g => g.2.2.2 rfl
/-- Whether a node is on the row of another one, with fuel. -/
def domB (l : List Int) (a : Int) : Nat → Int → Bool
  | 0, _ => false
  | f + 1, b => if b < 0 ∨ (l.length : Int) ≤ b then false else if a = b then true else domB l a f (l.getD b.toNat 0)
noncomputable def domL (E : Nat → Nat → Prop) (r n : Nat) : List Int := (List.range n).map (domF E r)
theorem domL_at {b : Nat} (hb : b < n) : (domL E r n).getD b 0 = domF E r b := by
  unfold domL
  rw [List.getD_eq_getElem?_getD, List.getElem?_map, List.getElem?_range hb]
  rfl
theorem domL_len : (domL E r n).length = n := by unfold domL; simp
theorem domB_is (hn : ∀ x, Rc E r x → x < n) (a : Nat) : ∀ (f : Nat) (b : Nat), Rc E r b → (byL E r n b).length < f → domB (domL E r n) a f b = dc (Dom E r a b)
  | 0, b, _, h => by omega
  | f + 1, b, hb, h => by
    have hbn := hn b hb
    unfold domB
    rw [domL_len, if_neg (by omega)]
    by_cases q : (a : Int) = (b : Int)
    · rw [if_pos q]
      have : a = b := by omega
      subst this
      exact (dc_iff.2 (Dom.self _)).symm
    · rw [if_neg q, Int.toNat_natCast, domL_at hbn]
      have hab : a ≠ b := fun e => q (by rw [e])
      by_cases e : b = r
      · subst e
        rw [domF_no (fun h => h.2 rfl)]
        have : domB (domL E b n) a f (-1) = false := by
          cases f with
          | zero => rfl
          | succ f => unfold domB; rw [if_pos (by omega)]
        rw [this]
        exact (dc_no.2 fun h => h (.refl (Ne.symm hab))).symm
      · obtain ⟨i, hi⟩ := IDom.ex hn hb e
        rw [domF_of hb hi, domB_is hn a f i (hi.2.1.rc hb) (by have := hi.lt hn hb; omega)]
        exact dc_eq ⟨fun h => h.trans hi.2.1, fun h => hi.2.2 a h hab⟩
theorem domB_dom (hn : ∀ x, Rc E r x → x < n) {a b : Nat} (hb : Rc E r b) : domB (domL E r n) a (n + 1) b = dc (Dom E r a b) :=
  domB_is hn a (n + 1) b hb (by
    have : (byL E r n b).length ≤ (List.range n).length := List.length_filter_le _ _
    rw [List.length_range] at this
    omega)
/-! Each ahead of all that it leads to. -/
/-- May a node be next? -/
def Fr (E : Nat → Nat → Prop) (r : Nat) (d : List Nat) (b : Nat) : Prop := Rc E r b ∧ b ∉ d ∧ ∀ a, Rc E r a → a ∉ d → E a b → Dom E r b a
/-- The next one. -/
def Nx (E : Nat → Nat → Prop) (r : Nat) (d : List Nat) (b : Nat) : Prop := Fr E r d b ∧ ∀ c, Fr E r d c → b ≤ c
inductive Kh (E : Nat → Nat → Prop) (r : Nat) : List Nat → Prop
  | nil : Kh E r []
  | next {d : List Nat} {b : Nat} : Kh E r d → Nx E r d b → Kh E r (d ++ [b])
structure KhE (E : Nat → Nat → Prop) (r : Nat) (d : List Nat) : Prop where
  kh : Kh E r d
  no : ∀ b, ¬ Fr E r d b
theorem Nx.uniq {d : List Nat} {b c : Nat} (h : Nx E r d b) (h' : Nx E r d c) : b = c := by
  have := h.2 c h'.1
  have := h'.2 b h.1
  omega
theorem Kh.inv {d : List Nat} (h : Kh E r d) : d = [] ∨ ∃ d' b, d = d' ++ [b] ∧ Kh E r d' ∧ Nx E r d' b := by
  cases h with
  | nil => exact .inl rfl
  | next h1 h2 => exact .inr ⟨_, _, rfl, h1, h2⟩
theorem Kh.pre {d : List Nat} (h : Kh E r d) : ∀ k, k ≤ d.length → Kh E r (d.take k) := by
  induction h with
  | nil => intro k hk; simp; exact .nil
  | next h1 h2 ih =>
    rename_i d b
    intro k hk
    rcases Nat.lt_or_ge d.length k with q | q
    · rw [List.take_of_length_le (by simp; omega)]; exact .next h1 h2
    · rw [List.take_append_of_le_length q]; exact ih k q
theorem Kh.at_ {d : List Nat} (h : Kh E r d) {i b : Nat} (hi : d[i]? = some b) : Nx E r (d.take i) b := by
  have hl := (List.getElem?_eq_some_iff.1 hi).1
  have hp := h.pre (i + 1) (by omega)
  have e : d.take (i + 1) = d.take i ++ [b] := by
    rw [List.take_add_one, hi]; rfl
  rw [e] at hp
  rcases hp.inv with q | ⟨d', b', q, _, q3⟩
  · simp at q
  · obtain ⟨q1, q2⟩ := List.append_inj' q rfl
    cases q2
    rw [q1]; exact q3
theorem KhE.uniq {d d' : List Nat} (h : KhE E r d) (h' : KhE E r d') : d = d' := by
  have key : ∀ k, d.take k = d'.take k ∧ (k ≤ d.length ↔ k ≤ d'.length) := by
    intro k
    induction k with
    | zero => simp
    | succ k ih =>
      obtain ⟨i1, i2⟩ := ih
      rcases Nat.lt_or_ge k d.length with q | q
      · have a1 : d[k]? = some d[k] := List.getElem?_eq_getElem q
        have n1 := h.kh.at_ a1
        have q2 : k < d'.length := by
          rcases Nat.lt_or_ge k d'.length with z | z
          · exact z
          · exfalso
            have e : d'.take k = d' := List.take_of_length_le z
            rw [e] at i1
            rw [i1] at n1
            exact h'.no _ n1.1
        have a2 : d'[k]? = some d'[k] := List.getElem?_eq_getElem q2
        have n2 := h'.kh.at_ a2
        rw [← i1] at n2
        have e := n1.uniq n2
        refine ⟨?_, by omega⟩
        rw [List.take_add_one, List.take_add_one, i1, a1, a2, e]
      · have q2 : d'.length ≤ k := by
          rcases Nat.lt_or_ge k d'.length with z | z
          · exfalso
            have a2 : d'[k]? = some d'[k] := List.getElem?_eq_getElem z
            have n2 := h'.kh.at_ a2
            rw [← i1, List.take_of_length_le q] at n2
            exact h.no _ n2.1
          · exact z
        refine ⟨?_, by omega⟩
        rw [List.take_of_length_le (by omega), List.take_of_length_le (by omega)]
        rw [List.take_of_length_le q, List.take_of_length_le q2] at i1
        exact i1
  have := (key (d.length + d'.length)).1
  rwa [List.take_of_length_le (by omega), List.take_of_length_le (by omega)] at this
theorem Kh.mem {d : List Nat} (h : Kh E r d) : d.Nodup ∧ ∀ b ∈ d, Rc E r b := by
  induction h with
  | nil => simp
  | next h1 h2 ih =>
    refine ⟨List.nodup_append.2 ⟨ih.1, by simp, fun x hx y hy => ?_⟩, fun b hb => ?_⟩
    · rw [List.mem_singleton] at hy; subst hy; rintro rfl; exact h2.1.2.1 hx
    · rcases List.mem_append.1 hb with z | z
      · exact ih.2 b z
      · rw [List.mem_singleton] at z; subst z; exact h2.1.1
/-- An edge that does not go back leads on. -/
theorem Kh.fwd {d : List Nat} (h : Kh E r d) {i a b : Nat} (hi : d[i]? = some b) (ha : Rc E r a) (he : E a b) (hb : ¬ Dom E r b a) : ∃ j, j < i ∧ d[j]? = some a := by
  have hm : a ∈ d.take i := by
    rcases Classical.em (a ∈ d.take i) with q | q
    · exact q
    · exact absurd ((h.at_ hi).1.2.2 a ha q he) hb
  obtain ⟨j, hj⟩ := List.getElem?_of_mem hm
  rw [List.getElem?_take] at hj
  split at hj
  · rename_i q; exact ⟨j, q, hj⟩
  · cases hj
/-- The root is first. -/
theorem Fr.root : Fr E r [] r ∧ ∀ b, Fr E r [] b → b = r := by
  refine ⟨⟨.refl trivial, by simp, fun a _ _ _ => Dom.root a⟩, fun b hb => ?_⟩
  rcases Classical.em (b = r) with q | q
  · exact q
  · exfalso
    have key : ∀ x, Rc E r x → RW E (· ≠ b) r x := by
      intro x hx
      induction hx with
      | refl _ => exact .refl (Ne.symm q)
      | step h e hp ih =>
        rename_i y z
        refine .step ih e fun e' => ?_
        subst e'
        exact hb.2.2 y (ih.mono fun _ _ => trivial) (by simp) e ih
    exact (key b hb.1).lst rfl
theorem KhE.head {d : List Nat} (h : KhE E r d) : d[0]? = some r := by
  rcases d with _ | ⟨x, d⟩
  · exact absurd Fr.root.1 (h.no r)
  · have := h.kh.at_ (show (x :: d)[0]? = some x from rfl)
    rw [Fr.root.2 x this.1]
    rfl
/-- All are in it, where nothing leads in a circle. -/
theorem KhE.all {d : List Nat} (h : KhE E r d) (ρ : Nat → Nat) (hρ : ∀ a b, Rc E r a → Rc E r b → E a b → ¬ Dom E r b a → ρ a < ρ b) : ∀ b, Rc E r b → b ∈ d := by
  have key : ∀ k b, ρ b = k → Rc E r b → b ∈ d := by
    intro k
    induction k using Nat.strongRecOn with
    | ind k ih =>
      intro b hk hb
      rcases Classical.em (b ∈ d) with q | q
      · exact q
      · exfalso
        refine h.no b ⟨hb, q, fun a ha hna he => ?_⟩
        rcases Classical.em (Dom E r b a) with z | z
        · exact z
        · exact absurd (ih (ρ a) (by have := hρ a b ha hb he z; omega) a rfl ha) hna
  exact fun b hb => key _ b rfl hb
theorem Kh.stuck {d : List Nat} (h : Kh E r d) (S : Nat → Prop) (hS : ∀ b, S b → ∃ a, S a ∧ Rc E r a ∧ E a b ∧ ¬ Dom E r b a) : ∀ b, S b → b ∉ d := by
  induction h with
  | nil => simp
  | next h1 h2 ih =>
    intro b hb hm
    rcases List.mem_append.1 hm with z | z
    · exact ih b hb z
    · rw [List.mem_singleton] at z; subst z
      obtain ⟨a, a1, a2, a3, a4⟩ := hS b hb
      exact a4 (h2.1.2.2 a a2 (ih a a1) a3)
end
section
variable {E : Nat → Nat → Prop} {Q : Nat → Prop} {r : Nat}
/-! What is reached, by a stack. -/
structure RS (E : Nat → Nat → Prop) (Q : Nat → Prop) (r : Nat) (out : Nat → Prop) (todo : List Nat) : Prop where
  rt : out r
  rc : ∀ x, out x → RW E Q r x
  cl : ∀ x, out x → x ∈ todo ∨ ∀ y, E x y → Q y → out y
  td : ∀ x ∈ todo, out x
structure RSi (E : Nat → Nat → Prop) (Q : Nat → Prop) (r : Nat) (out : Nat → Prop) (todo : List Nat) (a : Nat) (ks : List Nat) : Prop where
  rt : out r
  rc : ∀ x, out x → RW E Q r x
  oa : out a
  cl : ∀ x, out x → x ∈ todo ∨ (x = a ∧ ∀ y, E a y → Q y → out y ∨ y ∈ ks) ∨ ∀ y, E x y → Q y → out y
  td : ∀ x ∈ todo, out x
theorem RS.start (h : Q r) : RS E Q r (· = r) [r] := ⟨rfl, fun x e => (by subst e; exact .refl h), fun x e => .inl (by simp [e]), fun x e => by simpa using e⟩
theorem RS.pop {out : Nat → Prop} {t ks : List Nat} {a : Nat} (h : RS E Q r out (t ++ [a])) (hk : ∀ y, E a y → y ∈ ks) : RSi E Q r out t a ks := by
  refine ⟨h.rt, h.rc, h.td a (by simp), fun x hx => ?_, fun x hx => h.td x (by simp [hx])⟩
  rcases h.cl x hx with z | z
  · rcases List.mem_append.1 z with z | z
    · exact .inl z
    · rw [List.mem_singleton] at z; subst z
      exact .inr (.inl ⟨rfl, fun y he _ => .inr (hk y he)⟩)
  · exact .inr (.inr z)
theorem RSi.skip {out : Nat → Prop} {t ks : List Nat} {a y : Nat} (h : RSi E Q r out t a (y :: ks)) (hy : out y ∨ ¬ Q y) : RSi E Q r out t a ks := by
  refine ⟨h.rt, h.rc, h.oa, fun x hx => ?_, h.td⟩
  rcases h.cl x hx with z | ⟨z1, z2⟩ | z
  · exact .inl z
  · refine .inr (.inl ⟨z1, fun u he hq => ?_⟩)
    rcases z2 u he hq with q | q
    · exact .inl q
    · rcases List.mem_cons.1 q with e | q
      · subst e; exact .inl (hy.resolve_right fun g => g hq)
      · exact .inr q
  · exact .inr (.inr z)
theorem RSi.push {out : Nat → Prop} {t ks : List Nat} {a y : Nat} (h : RSi E Q r out t a (y :: ks)) (he : E a y) (hq : Q y) : RSi E Q r (fun x => out x ∨ x = y) (t ++ [y]) a ks := by
  refine ⟨.inl h.rt, ?_, .inl h.oa, fun x hx => ?_, fun x hx => ?_⟩
  · rintro x (hx | rfl)
    · exact h.rc x hx
    · exact .step (h.rc a h.oa) he hq
  · rcases hx with hx | rfl
    · rcases h.cl x hx with z | ⟨z1, z2⟩ | z
      · exact .inl (by simp [z])
      · refine .inr (.inl ⟨z1, fun u h1 h2 => ?_⟩)
        rcases z2 u h1 h2 with q | q
        · exact .inl (.inl q)
        · rcases List.mem_cons.1 q with e | q
          · exact .inl (.inr e)
          · exact .inr q
      · exact .inr (.inr fun u h1 h2 => .inl (z u h1 h2))
    · exact .inl (by simp)
  · rcases List.mem_append.1 hx with z | z
    · exact .inl (h.td x z)
    · rw [List.mem_singleton] at z; exact .inr z
theorem RSi.done {out : Nat → Prop} {t : List Nat} {a : Nat} (h : RSi E Q r out t a []) : RS E Q r out t := by
  refine ⟨h.rt, h.rc, fun x hx => ?_, h.td⟩
  rcases h.cl x hx with z | ⟨z1, z2⟩ | z
  · exact .inl z
  · subst z1
    exact .inr fun y he hq => (z2 y he hq).resolve_right (by simp)
  · exact .inr z
theorem RS.done {out : Nat → Prop} (h : RS E Q r out []) (x : Nat) : out x ↔ RW E Q r x := by
  refine ⟨h.rc x, fun hx => ?_⟩
  induction hx with
  | refl _ => exact h.rt
  | step _ e hq ih =>
    rcases h.cl _ ih with z | z
    · cases z
    · exact z _ e hq
/-- How many are left. -/
def left (l : List Bool) : Nat := l.countP (fun b => !b)
theorem left_set {l : List Bool} {i : Nat} (h : l[i]? = some false) : left (l.set i true) + 1 = left l := by
  unfold left
  induction l generalizing i with
  | nil => simp at h
  | cons b l ih =>
    cases i with
    | zero =>
      have : b = false := by simpa using h
      subst this
      simp
    | succ i =>
      have h' : l[i]? = some false := by simpa using h
      have := ih h'
      simp only [List.set_cons_succ, List.countP_cons]
      omega
end
end Go.Proofs.Ytacdeollnhkckaa.C.Sh
