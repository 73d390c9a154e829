/- shape.ranks: its memory. -/
import Derived.Test.YtacdeollnhkckaaShR2
namespace Go.Proofs.Ytacdeollnhkckaa.C
open Go.Shelf Go.RowKit Go.Lib Go.Sort
set_option linter.unusedSimpArgs false
set_option linter.unusedVariables false
noncomputable def leastM (P : Nat → Prop) : Nat := open Classical in if h : ∃ k, P k then Classical.choose (Sh.least _ h) else 0
theorem leastM_is {P : Nat → Prop} {k : Nat} (h : P k) : P (leastM P) := by
  have hx : ∃ k, P k := ⟨k, h⟩
  unfold leastM
  rw [dif_pos hx]
  exact (Classical.choose_spec (Sh.least _ hx)).1
theorem leastM_le {P : Nat → Prop} {k : Nat} (h : P k) : leastM P ≤ k := by
  have hx : ∃ k, P k := ⟨k, h⟩
  unfold leastM
  rw [dif_pos hx]
  exact (Classical.choose_spec (Sh.least _ hx)).2 _ h
theorem ownsRow_of_block {w w' : World} {B : Nat} {e : TypeId} {s n : Nat} {v : Value} {xs : List Value} (h : w.ownsRow B e s v n xs) (hh : ∀ g, v.ownBlock = some g → w'.heap[g]? = w.heap[g]?) : w'.ownsRow B e s v n xs := by
  refine ⟨h.1, ?_⟩
  rcases h.2 with q | ⟨g, cap, cur, rfl, hg, hb, r⟩
  · exact .inl q
  · exact .inr ⟨g, cap, cur, rfl, hg, (hh g rfl).trans hb, r⟩
structure Ent where
  at_ : Nat
  K : Option Addr
  len : Nat
  cap : Nat
  ks : List Nat
def entC (e : Ent) : List Value := [.int .i64 (e.at_ : Int), .slice e.K e.len e.cap]
def entsC (st : List Ent) : List Value := st.flatMap entC
def pur (st : List Ent) : List (Nat × List Nat) := st.map (fun e => (e.at_, e.ks))
def lenSum : List Ent → Nat
  | [] => 0
  | e :: l => e.len + lenSum l
theorem lenSum_app (l : List Ent) (e : Ent) : lenSum (l ++ [e]) = lenSum l + e.len := by
  induction l with
  | nil => simp [lenSum]
  | cons x l ih => simp only [List.cons_append, lenSum, ih]; omega
theorem entsC_len (l : List Ent) : (entsC l).length = l.length * 2 := by
  induction l with
  | nil => rfl
  | cons x l ih => simp only [entsC, List.flatMap_cons, List.length_append, List.length_cons] at ih ⊢; rw [ih]; simp [entC]; omega
theorem entsC_app (l : List Ent) (e : Ent) : entsC (l ++ [e]) = entsC l ++ entC e := by unfold entsC; rw [List.flatMap_append]; simp
theorem pur_app (l : List Ent) (e : Ent) : pur (l ++ [e]) = pur l ++ [(e.at_, e.ks)] := by unfold pur; simp
/-- The row of what is still to be looked at. -/
def KR (w : World) (B : Nat) (NP : Nat → Prop) (e : Ent) : Prop :=
  e.ks.length = e.len ∧ e.len ≤ e.cap ∧ e.cap ≤ 9223372036854775807 ∧ (0 < e.len → ∃ g o, e.K = some ⟨g, o, none⟩ ∧ B ≤ g ∧ ¬ NP g ∧ (∃ cs fr, w.heap[g]? = some (Obj.cells cs 3 fr)) ∧ ∀ (j x : Nat), e.ks[j]? = some x → w.cell? ⟨g, o + j, none⟩ = some (.int .i64 (x : Int)))
theorem KR.keep {w w' : World} {B : Nat} {NP NP' : Nat → Prop} {e : Ent} (h : KR w B NP e) (hk : ∀ g : Nat, (∃ cs fr, w.heap[g]? = some (Obj.cells cs 3 fr)) → ¬ NP g → w'.heap[g]? = w.heap[g]?) (hn : ∀ g, g < w.heap.size → NP' g → NP g) : KR w' B NP' e := by
  refine ⟨h.1, h.2.1, h.2.2.1, fun h0 => ?_⟩
  obtain ⟨g, o, h1, h2, h3, h4, h5⟩ := h.2.2.2 h0
  have hb := hk g h4 h3
  obtain ⟨cs, fr, h6⟩ := h4
  exact ⟨g, o, h1, h2, fun q => h3 (hn g (Array.getElem?_eq_some_iff.1 h6).1 q), ⟨cs, fr, hb.trans h6⟩, fun j x hj => (World.cell?_of_block hb).trans (h5 j x hj)⟩
theorem IL.kr {w : World} {B a K c : Nat} {A : Option Addr} {t : List Nat} {NP : Nat → Prop} (h : IL w B (.slice A K c) (nI t)) (hK : t.length = K) (hn : ∀ g, B ≤ g → ¬ NP g) : KR w B NP ⟨a, A, K, c, t⟩ := by
  obtain ⟨c1, c2, c3⟩ := h.cap
  refine ⟨hK, c1, c2, fun h0 => ?_⟩
  rcases h.2 with ⟨q, q2⟩ | ⟨g, cap, cur, e, hb, hh, _⟩
  · rw [nI_len] at q2; simp only at h0; omega
  · injection e with e1 e2 e3
    subst e1
    exact ⟨g, 0, rfl, hb, hn g hb, ⟨cur, _, hh⟩, fun j x hj => by rw [Nat.zero_add]; exact h.at_ (nI_at hj)⟩
/-- The memory of ranks. -/
structure DM (w wr : World) (br bs n : Nat) (lo : List Bool) (P : Option Addr) (cp : Nat) (post : List Nat) (S : Option Addr) (cs : Nat) (st : List Ent) : Prop where
  hb : Below w.heap.size w wr
  rk : IL wr w.heap.size (.slice (some ⟨br, 0, none⟩) n n) (List.replicate n (-1))
  ps : IL wr w.heap.size (.slice P post.length cp) (nI post)
  sn : BL' wr w.heap.size (.slice (some ⟨bs, 0, none⟩) n n) lo
  sk : wr.ownsRow w.heap.size 50 2 (.slice S st.length cs) st.length (entsC st)
  kd : ∀ e ∈ st, KR wr w.heap.size (fun g => (Value.slice P post.length cp).ownBlock = some g) e
  ap : (Value.slice P post.length cp).ownBlock ≠ some br
  ln : lo.length = n
theorem tV_ne_tB : (50 : TypeId) ≠ 4 := by decide
theorem tV_ne_tI : (50 : TypeId) ≠ 3 := by decide
theorem DM.below {w wr w' : World} {br bs n : Nat} {lo : List Bool} {P : Option Addr} {cp : Nat} {post : List Nat} {S : Option Addr} {cs : Nat} {st : List Ent} (h : DM w wr br bs n lo P cp post S cs st) (hb : Below wr.heap.size wr w') : DM w w' br bs n lo P cp post S cs st :=
  ⟨below_next h.hb h.hb.size hb, h.rk.below hb, h.ps.below hb, h.sn.below hb, ownsRow_b h.sk hb, fun e he => (h.kd e he).keep (fun g ⟨c, f, hg⟩ _ => hb.block g (Array.getElem?_eq_some_iff.1 hg).1) (fun _ _ q => q), h.ap, h.ln⟩
theorem DM.mark {w wr : World} {br bs n : Nat} {lo : List Bool} {P : Option Addr} {cp : Nat} {post : List Nat} {S : Option Addr} {cs : Nat} {st : List Ent} (h : DM w wr br bs n lo P cp post S cs st) (y : Nat) : DM w (wr.setCell ⟨bs, y, none⟩ (.bool true)) br bs n (lo.set y true) P cp post S cs st := by
  have hge := (h.sn.lt bs rfl).1
  refine ⟨h.hb.setCell hge _, h.rk.far (p := ⟨bs, y, none⟩) (h.sn.ne h.rk bs rfl) _, h.ps.far (p := ⟨bs, y, none⟩) (h.sn.ne h.ps bs rfl) _, h.sn.set y true, ?_, fun e he => (h.kd e he).keep (fun g hg _ => ?_) (fun _ _ q => q), h.ap, by rw [List.length_set]; exact h.ln⟩
  · exact ownsRow_setCell_other h.sk (a := ⟨bs, y, none⟩) (own_kind h.sn h.sk (Ne.symm tV_ne_tB) bs rfl) _
  · obtain ⟨c, f, hg⟩ := hg
    refine heap_setCell_other wr ⟨bs, y, none⟩ g _ (fun e => ?_)
    subst e
    rcases h.sn.2 with ⟨q, _⟩ | ⟨g', cap, cur, e, _, hh, _⟩
    · cases q
    · injection e with e1 _ _
      injection e1 with e1
      injection e1 with e1
      subst e1
      rw [hh] at hg
      injection hg with hg
      injection hg with _ hg
      exact tI_ne_tB hg.symm
theorem DM.popS {w wr : World} {br bs n : Nat} {lo : List Bool} {P : Option Addr} {cp : Nat} {post : List Nat} {S : Option Addr} {cs : Nat} {st : List Ent} {e : Ent} (h : DM w wr br bs n lo P cp post S cs (st ++ [e])) : DM w wr br bs n lo P cp post S cs st := by
  refine ⟨h.hb, h.rk, h.ps, h.sn, ?_, fun e he => h.kd e (by simp [he]), h.ap, h.ln⟩
  have h2 := h.sk
  rw [entsC_app, List.length_append] at h2
  rcases h2.2 with ⟨q, _⟩ | ⟨g, cap, cur, q, _⟩
  · injection q with q1 q2 q3; simp at q2
  · injection q with q1 q2 q3
    subst q1
    exact ownsRow_pop (entsC_len st) h2
theorem DM.post {w wr w2 : World} {br bs n : Nat} {lo : List Bool} {P : Option Addr} {cp : Nat} {post : List Nat} {S : Option Addr} {cs : Nat} {st : List Ent} {O : Obj} {V : Value} {a : Nat} (h : DM w wr br bs n lo P cp post S cs st)
    (hown : w2.ownsRow w.heap.size 3 1 V (post.length + 1) ((nI post).map (Value.int .i64) ++ [.int .i64 (a : Int)])) (hg : (wr.alloc O).grownBy w2 (Value.slice P post.length cp).ownBlock) (hat : V.ownBlock = (Value.slice P post.length cp).ownBlock ∨ V.ownBlock = some (wr.alloc O).heap.size) :
    ∃ P2 c2, V = .slice P2 (post ++ [a]).length c2 ∧ DM w w2 br bs n lo P2 c2 (post ++ [a]) S cs st := by
  have ha : Below wr.heap.size wr (wr.alloc O) := (Below.refl _ _).alloc (Nat.le_refl _) _
  have h2 := h.below ha
  have e : (nI post).map (Value.int .i64) ++ [.int .i64 (a : Int)] = (nI (post ++ [a])).map (Value.int .i64) := by rw [nI_app]; simp
  rw [e] at hown
  have hl : (post ++ [a]).length = post.length + 1 := by simp
  have hl2 : (nI (post ++ [a])).length = post.length + 1 := by rw [nI_len, hl]
  rcases hown.2 with ⟨_, q⟩ | ⟨g, cap, cur, rfl, _⟩
  · omega
  · have hnew : ∀ k, k < (wr.alloc O).heap.size → (Value.slice (some ⟨g, 0, none⟩) (post ++ [a]).length cap).ownBlock = some k → (Value.slice P post.length cp).ownBlock = some k := by
      intro k hk hgk
      rcases hat with q | q
      · rw [← q]; exact hgk
      · have : some g = some (wr.alloc O).heap.size := q
        injection this with this
        have h4 : some g = some k := hgk
        injection h4 with h4
        omega
    refine ⟨_, _, by rw [hl], ?_⟩
    refine ⟨h2.hb.grown hg h2.hb.size (fun g hgg => (h2.ps.lt _ hgg).1), h2.rk.grown hg (fun k hk => ?_), by unfold IL; rw [hl2, hl]; exact hown, h2.sn.grown hg (fun k hk => h2.sn.ne h2.ps k hk), ?_, fun e he => (h2.kd e he).keep (fun k hk hn => ?_) (fun k hk q => hnew k hk q), fun q => ?_, h.ln⟩
    · have hk' : some br = some k := hk
      rw [← hk']
      exact h.ap
    · exact ownsRow_of_block h2.sk (fun k hk => by
        have hlt := (h2.sk.lt k hk).2
        exact hg.block k hlt (fun q => own_kind h2.sk h2.ps tV_ne_tI k hk q.symm))
    · obtain ⟨c, f, hk⟩ := hk
      exact hg.block k (Array.getElem?_eq_some_iff.1 hk).1 (fun q => hn q.symm)
    · exact h.ap (hnew br (h2.rk.lt br rfl).2 q)
theorem DM.cut {w wr : World} {br bs n : Nat} {lo : List Bool} {P : Option Addr} {cp : Nat} {post : List Nat} {gs cs a y : Nat} {K : Option Addr} {len cap : Nat} {ks : List Nat} {st : List Ent} (h : DM w wr br bs n lo P cp post (some ⟨gs, 0, none⟩) cs (st ++ [⟨a, K, len + 1, cap, y :: ks⟩])) :
    DM w (wr.setCell ⟨gs, st.length * 2 + 1, none⟩ (.slice (if cap = 1 then K else K.map (·.add 1)) len (cap - 1))) br bs n lo P cp post (some ⟨gs, 0, none⟩) cs (st ++ [⟨a, if cap = 1 then K else K.map (·.add 1), len, cap - 1, ks⟩]) := by
  have hl : (st ++ [(⟨a, K, len + 1, cap, y :: ks⟩ : Ent)]).length = st.length + 1 := by simp
  have hl2 : (st ++ [(⟨a, if cap = 1 then K else K.map (·.add 1), len, cap - 1, ks⟩ : Ent)]).length = st.length + 1 := by simp
  have hgeS := (h.sk.lt gs rfl).1
  have hs := h.sk
  rw [entsC_app, hl] at hs
  have hset := (World.ownsRow.stored hs (st.length * 2 + 1) (.slice (if cap = 1 then K else K.map (·.add 1)) len (cap - 1))).1
  have hint : ∀ k : Nat, (∃ c f, wr.heap[k]? = some (Obj.cells c 3 f)) → (wr.setCell ⟨gs, st.length * 2 + 1, none⟩ (.slice (if cap = 1 then K else K.map (·.add 1)) len (cap - 1))).heap[k]? = wr.heap[k]? := by
    rintro k ⟨c, f, hk⟩
    refine heap_setCell_other wr _ k _ (fun e => ?_)
    subst e
    rcases hs.2 with ⟨q, _⟩ | ⟨g', cap', cur, e, _, hh, _⟩
    · cases q
    · injection e with e1 _ _
      injection e1 with e1
      injection e1 with e1
      subst e1
      rw [hh] at hk
      injection hk with hk
      injection hk with _ hk
      exact tV_ne_tI hk
  refine ⟨h.hb.setCell hgeS _, h.rk.far (p := ⟨gs, _, none⟩) (own_kind h.sk h.rk tV_ne_tI gs rfl) _, h.ps.far (p := ⟨gs, _, none⟩) (own_kind h.sk h.ps tV_ne_tI gs rfl) _, h.sn.far (p := ⟨gs, _, none⟩) (own_kind h.sk h.sn tV_ne_tB gs rfl) _, ?_, ?_, h.ap, h.ln⟩
  · rw [hl2, entsC_app]
    have e : (entsC st ++ entC ⟨a, K, len + 1, cap, y :: ks⟩).set (st.length * 2 + 1) (.slice (if cap = 1 then K else K.map (·.add 1)) len (cap - 1)) = entsC st ++ entC ⟨a, if cap = 1 then K else K.map (·.add 1), len, cap - 1, ks⟩ := by
      rw [List.set_append_right _ _ (by rw [entsC_len]; omega), entsC_len]
      congr 1
      rw [show st.length * 2 + 1 - st.length * 2 = 1 from by omega]
      rfl
    rw [e] at hset
    exact hset
  · intro e he
    rcases List.mem_append.1 he with z | z
    · exact (h.kd e (by simp [z])).keep (fun k hk _ => hint k hk) (fun _ _ q => q)
    · rw [List.mem_singleton] at z
      subst z
      have h3 := (h.kd ⟨a, K, len + 1, cap, y :: ks⟩ (by simp)).keep (w' := wr.setCell ⟨gs, st.length * 2 + 1, none⟩ (.slice (if cap = 1 then K else K.map (·.add 1)) len (cap - 1))) (fun k hk _ => hint k hk) (fun _ _ q => q)
      obtain ⟨k1, k2, k3, k4⟩ := h3
      simp only at k1 k2 k3 k4
      refine ⟨by simpa using k1, by simp only; omega, by simp only; omega, fun h0 => ?_⟩
      simp only at h0
      obtain ⟨g, o, q1, q2, q3, q4, q5⟩ := k4 (by omega)
      have e1 : (if cap = 1 then K else K.map (·.add 1)) = some ⟨g, o + 1, none⟩ := by rw [if_neg (by omega), q1]; simp [add_plain]
      refine ⟨g, o + 1, e1, q2, q3, q4, fun j x hj => ?_⟩
      have := q5 (j + 1) x (by simpa using hj)
      rw [show o + 1 + j = o + (j + 1) from by omega]
      exact this
theorem DM.push {w wr w2 : World} {br bs n : Nat} {lo : List Bool} {P : Option Addr} {cp : Nat} {post : List Nat} {S : Option Addr} {cs : Nat} {st : List Ent} {O : Obj} {V : Value} {e : Ent} (h : DM w wr br bs n lo P cp post S cs st) (hk : KR wr w.heap.size (fun g => (Value.slice P post.length cp).ownBlock = some g) e)
    (hown : w2.ownsRow w.heap.size 50 2 V (st.length + 1) (entsC st ++ entC e)) (hg : (wr.alloc O).grownBy w2 (Value.slice S st.length cs).ownBlock) :
    ∃ S2 c2, V = .slice S2 (st ++ [e]).length c2 ∧ DM w w2 br bs n lo P cp post S2 c2 (st ++ [e]) := by
  have ha : Below wr.heap.size wr (wr.alloc O) := (Below.refl _ _).alloc (Nat.le_refl _) _
  have h2 := h.below ha
  have hk2 := hk.keep (w' := wr.alloc O) (NP' := fun g => (Value.slice P post.length cp).ownBlock = some g) (fun g ⟨c, f, hg⟩ _ => ha.block g (Array.getElem?_eq_some_iff.1 hg).1) (fun _ _ q => q)
  rw [← entsC_app] at hown
  have hl : (st ++ [e]).length = st.length + 1 := by simp
  have hkeep : ∀ g : Nat, (∃ c f, (wr.alloc O).heap[g]? = some (Obj.cells c 3 f)) → w2.heap[g]? = (wr.alloc O).heap[g]? := by
    rintro g ⟨c, f, hgg⟩
    refine hg.block g (Array.getElem?_eq_some_iff.1 hgg).1 (fun q => ?_)
    rcases h2.sk.2 with ⟨q2, _⟩ | ⟨g', cap, cur, q2, _, hh, _⟩
    · rw [q2] at q; cases q
    · rw [q2] at q
      have : g = g' := by simpa [Value.ownBlock] using q
      subst this
      rw [hh] at hgg
      injection hgg with hgg
      injection hgg with _ hgg
      exact tV_ne_tI hgg
  rcases hown.2 with ⟨_, q⟩ | ⟨g, cap, cur, rfl, _⟩
  · omega
  · refine ⟨_, _, by rw [hl], h2.hb.grown hg h2.hb.size (fun g hgg => (h2.sk.lt _ hgg).1), h2.rk.grown hg (fun k hk => own_kind h2.rk h2.sk (Ne.symm tV_ne_tI) k hk), h2.ps.grown hg (fun k hk => own_kind h2.ps h2.sk (Ne.symm tV_ne_tI) k hk), h2.sn.grown hg (fun k hk => own_kind h2.sn h2.sk (Ne.symm tV_ne_tB) k hk), by rw [hl]; exact hown, fun x hx => ?_, h.ap, h.ln⟩
    rcases List.mem_append.1 hx with z | z
    · exact (h2.kd x z).keep (fun g hg _ => hkeep g hg) (fun _ _ q => q)
    · rw [List.mem_singleton] at z
      subst z
      exact hk2.keep (fun g hg _ => hkeep g hg) (fun _ _ q => q)
end Go.Proofs.Ytacdeollnhkckaa.C
