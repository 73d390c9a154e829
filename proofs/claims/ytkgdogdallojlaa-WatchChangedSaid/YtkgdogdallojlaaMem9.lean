/- memory and the reference's memory: any state (MS: the slice may have been cut); Add of both: walks. -/
import Derived.Test.YtkgdogdallojlaaMem8
import Derived.ArgAppend
namespace Go.Proofs.Ytkgdogdallojlaa.C
open Go.RowKit
set_option linter.unusedSimpArgs false
set_option linter.unusedVariables false
theorem own_mono {w : World} {base base' : Nat} {e : TypeId} {size : Nat} {v : Value} {n : Nat} {xs : List Value} (h : w.ownsRow base e size v n xs) (hb : base' ≤ base) : w.ownsRow base' e size v n xs := by
  obtain ⟨h1, h2⟩ := h
  refine ⟨h1, ?_⟩
  rcases h2 with h2 | ⟨g, cap, cur, h3, hg, r⟩
  · exact .inl h2
  · exact .inr ⟨g, cap, cur, h3, Nat.le_trans hb hg, r⟩
/-- A row of n blocks: of the call's own, whole; or cut, without room. -/
def St (w : World) (base : Nat) (L : Value) (n : Nat) (xs : List Value) : Prop :=
  w.ownsRow base 52 2 L n xs ∨ ∃ g, L = .slice (some ⟨g, 0, none⟩) n n ∧ base ≤ g ∧ g < w.heap.size ∧ xs.length = n * 2 ∧ (∀ j u, xs[j]? = some u → w.cell? ⟨g, j, none⟩ = some u)
theorem St.len {w : World} {base : Nat} {L : Value} {n : Nat} {xs : List Value} (h : St w base L n xs) : xs.length = n * 2 := by
  rcases h with h | ⟨g, _, _, _, h, _⟩
  · exact h.1
  · exact h
theorem St.blk {w : World} {base : Nat} {L : Value} {n : Nat} {xs : List Value} (h : St w base L n xs) (k : Nat) (hk : L.ownBlock = some k) : base ≤ k ∧ k < w.heap.size := by
  rcases h with h | ⟨g, rfl, h1, h2, _⟩
  · exact own_blk h k hk
  · have : g = k := by simpa [Value.ownBlock] using hk
    subst this
    exact ⟨h1, h2⟩
theorem St.form {w : World} {base : Nat} {L : Value} {n : Nat} {xs : List Value} (h : St w base L n xs) : ∃ ao cap, L = .slice ao n cap ∧ n ≤ cap ∧ (1 ≤ n → ∃ g, ao = some ⟨g, 0, none⟩) := by
  rcases h with h | ⟨g, rfl, _⟩
  · rcases h.2 with ⟨rfl, h0⟩ | ⟨g, cap, cur, rfl, _, _, h2, _⟩
    · exact ⟨none, 0, by rw [h0], by omega, fun hn => absurd hn (by omega)⟩
    · exact ⟨_, cap, rfl, h2, fun _ => ⟨g, rfl⟩⟩
  · exact ⟨_, n, rfl, Nat.le_refl _, fun _ => ⟨g, rfl⟩⟩
theorem St.cells {w : World} {base : Nat} {g n cap : Nat} {xs : List Value} (h : St w base (.slice (some ⟨g, 0, none⟩) n cap) n xs) (j : Nat) (u : Value) (hj : xs[j]? = some u) : w.cell? ⟨g, j, none⟩ = some u := by
  rcases h with h | ⟨g', e, _, _, _, h⟩
  · have := h.cells (g := g) rfl j u hj
    rwa [m_plain] at this
  · simp at e
    rw [e.1]
    exact h j u hj
theorem St.keep {w w' : World} {base : Nat} {L : Value} {n : Nat} {xs : List Value} (h : St w base L n xs) (hs : w.heap.size ≤ w'.heap.size) (hk : ∀ b, L.ownBlock = some b → w'.heap[b]? = w.heap[b]?) : St w' base L n xs := by
  rcases h with ⟨h1, h2⟩ | ⟨g, rfl, h1, h2, h3, h4⟩
  · refine .inl ⟨h1, ?_⟩
    rcases h2 with h2 | ⟨g, cap, cur, rfl, hg, hh, r⟩
    · exact .inl h2
    · exact .inr ⟨g, cap, cur, rfl, hg, (hk g rfl).trans hh, r⟩
  · exact .inr ⟨g, rfl, h1, by omega, h3, fun j u hj => (m_kept (p := ⟨g, j, none⟩) (hk g rfl)).trans (h4 j u hj)⟩
section
variable {P : Program}
theorem run_append_st (w : World) (t ty : TypeId) (base : Nat) (i : TypeInfo) (z : Value) (bytes : Nat) (ht : P.underlying t = some (.slice 52)) (hi : P.info? 52 = some i) (hz : i.zero = some z)
    (hsize : i.size = 2) (hby : i.bytes = bytes) (hzs : z.cells.size = 2)
    (v : Value) (n : Nat) (xs : List Value) (hown : St w base v n xs)
    (ad : Addr) (c : Nat) (news : List Value) (hl : news.length = 1 * 2) (hnews : ∀ j u, news[j]? = some u → w.cell? (ad.add j) = some u) (h1 : ∀ u ∈ news, u.oneCell' = true)
    (h63 : n + 1 ≤ maxLen) (hbytes : (n + 1) * bytes ≤ 140737488355328) (hbase : base ≤ w.heap.size) :
    ∃ g cap w', (Builtin.append_ #[t, t] ty #[v, .slice (some ad) 1 c]).run P w = .ok (.slice (some ⟨g, 0, none⟩) (n + 1) cap) w' ∧
      w'.ownsRow base 52 2 (.slice (some ⟨g, 0, none⟩) (n + 1) cap) (n + 1) (xs ++ news) ∧ w.grownBy w' v.ownBlock ∧ (v.ownBlock = some g ∨ w.heap.size ≤ g) ∧ g < w'.heap.size := by
  rcases hown with hown | ⟨g, rfl, hg1, hg2, hg3, hg4⟩
  · obtain ⟨g, cap, w', hr, r1, r2, r3, r4⟩ := run_append_lies (P := P) w t ty base 52 i z 2 bytes ht hi hz hsize hby hzs (by omega) v n xs hown ad 1 c news hl hnews h1 (by omega) h63 hbytes hbase w.heap.size rfl
    exact ⟨g, cap, w', hr, r1, r2, r3.imp id (fun e => by omega), r4⟩
  · obtain ⟨v', w', hr, r1, r2⟩ := run_append_arg_grows (P := P) w t ty 52 i z 2 bytes ht hi hz hsize hby hzs (by omega) ⟨g, 0, none⟩ n n xs hg3 (fun j u hj => by rw [m_plain]; exact hg4 j u hj) ad 1 c news hl hnews (by omega) h63 hbytes
    obtain ⟨g', cap', rfl, k1, k2⟩ := r1.form (by omega)
    exact ⟨g', cap', w', hr, own_mono r1 hbase, ⟨r2.os, r2.tape, r2.output, r2.size, fun k hk _ => r2.block k hk (by simp)⟩, .inr k1, k2⟩
theorem step_append_st (w : World) {ops : Array Oper} {o : Oper} {a : Act} {K : Act → World → Prop} {Q : Exit → Act → World → Prop} {E : Prop} (hgd : o.guard = none) (s x : Operand) (t : TypeId)
    (ho : o.op = .call { callee := .builtin .append, args := #[s, x], argTypes := #[t, t] })
    (base : Nat) (i : TypeInfo) (z : Value) (bytes : Nat) (ht : P.underlying t = some (.slice 52)) (hi : P.info? 52 = some i) (hz : i.zero = some z)
    (hsize : i.size = 2) (hby : i.bytes = bytes) (hzs : z.cells.size = 2)
    (v : Value) (n : Nat) (xs : List Value) (hs : a.eval s = v) (hown : St w base v n xs)
    (ad : Addr) (c : Nat) (news : List Value) (hx : a.eval x = .slice (some ad) 1 c) (hl : news.length = 1 * 2) (hnews : ∀ j u, news[j]? = some u → w.cell? (ad.add j) = some u) (h1 : ∀ u ∈ news, u.oneCell' = true)
    (h63 : n + 1 ≤ maxLen) (hbytes : (n + 1) * bytes ≤ 140737488355328) (hbase : base ≤ w.heap.size)
    (h : ∀ g cap w', w'.ownsRow base 52 2 (.slice (some ⟨g, 0, none⟩) (n + 1) cap) (n + 1) (xs ++ news) → w.grownBy w' v.ownBlock → (v.ownBlock = some g ∨ w.heap.size ≤ g) → g < w'.heap.size → K (a.put o.dst (.slice (some ⟨g, 0, none⟩) (n + 1) cap)) w') :
    if Region.wanted o (yielded ops a.tmps) = true then Oper.wp P o a w K Q else E := by
  have hw : Region.wanted o (yielded ops a.tmps) = true := by simp [Region.wanted, hgd]
  rw [if_pos hw]
  obtain ⟨g, cap, w', hr, h2, h3, h4, h5⟩ := run_append_st (P := P) w t o.type base i z bytes ht hi hz hsize hby hzs v n xs hown ad c news hl hnews h1 h63 hbytes hbase
  unfold Oper.wp execOp
  simp only [ho, resolve, invoke, builtin, Sem.run_bind, Sem.run_pure, Result.andThen_ok, List.map_toArray, List.map_cons, List.map_nil, hs, hx, hr]
  exact h g cap w' h2 h3 h4 h5
end
/-- A memory at block p, in any state. -/
structure MS (w : World) (base p : Nat) (L : Value) (n : Nat) (ts : Nat → Int) (ad ln cp : Nat → Nat) (f : Nat → Nat → Int) : Prop where
  hp : base ≤ p ∧ p < w.heap.size
  cell : w.cell? ⟨p, 0, none⟩ = some L
  frz : w.frozen? ⟨p, 0, none⟩ = false
  own : St w base L n (xsM ts ad ln cp n)
  hL : L.ownBlock ≠ some p
  hA : ∀ i, i < n → base ≤ ad i ∧ ad i < w.heap.size ∧ ad i ≠ p ∧ L.ownBlock ≠ some (ad i) ∧ 1 ≤ ln i ∧ ln i ≤ 16 ∧ ln i ≤ cp i
  inj : ∀ i j, i < n → j < n → ad i = ad j → i = j
  inner : ∀ i j, i < n → j < ln i → w.cell? ⟨ad i, j, none⟩ = some (.int .i64 (f i j))
  ifrz : ∀ i j, i < n → j < ln i → w.frozen? ⟨ad i, j, none⟩ = false
theorem MR.ms {w : World} {base p n : Nat} {L : Value} {ts : Nat → Int} {ad ln cp : Nat → Nat} {f : Nat → Nat → Int} (h : MR w base p L n ts ad ln cp f) : MS w base p L n ts ad ln cp f :=
  ⟨h.hp, h.cell, h.frz, .inl h.own, h.hL, h.hA, h.inj, h.inner, h.ifrz⟩
/-- .. and another block; what was neither the memory's slice nor its own cell is as it was. -/
def AddedS (w : World) (base p n : Nat) (L : Value) (ts : Nat → Int) (ad ln cp : Nat → Nat) (f : Nat → Nat → Int) (t s : Int) (e : Ending) (w' : World) : Prop :=
  e = .returned (.int .i64 n) ∧ ∃ g cap a, w.heap.size ≤ a ∧ (Below base w w' ∧ (∀ b, b < w.heap.size → b ≠ p → L.ownBlock ≠ some b → w'.heap[b]? = w.heap[b]?) ∧ (L.ownBlock = some g ∨ w.heap.size ≤ g)) ∧ MR w' base p (.slice (some ⟨g, 0, none⟩) (n + 1) cap) (n + 1) (addT n ts t) (addN n ad a) (addN n ln (sizeM s)) (addN n cp (sizeM s)) (addF n f fun _ => 0)
theorem MS.added {w w1 : World} {base p n : Nat} {L : Value} {ts : Nat → Int} {ad ln cp : Nat → Nat} {f : Nat → Nat → Int} {t : Int} {k g cap : Nat} (hm : MS w base p L n ts ad ln cp f) (hb0 : base ≤ w.heap.size) (hk1 : 1 ≤ k) (hk2 : k ≤ 16)
    (hown : w1.ownsRow base 52 2 (.slice (some ⟨g, 0, none⟩) (n + 1) cap) (n + 1) (xsM ts ad ln cp n ++ [.int .i64 t, .slice (some ⟨w.heap.size, 0, none⟩) k k])) (hgrow : (addW w t k).grownBy w1 L.ownBlock) (hat : L.ownBlock = some g ∨ w.heap.size + 1 + 1 ≤ g) :
    (Below base w (w1.setCell ⟨p, 0, none⟩ (.slice (some ⟨g, 0, none⟩) (n + 1) cap)) ∧ (∀ b, b < w.heap.size → b ≠ p → L.ownBlock ≠ some b → (w1.setCell ⟨p, 0, none⟩ (.slice (some ⟨g, 0, none⟩) (n + 1) cap)).heap[b]? = w.heap[b]?) ∧ (L.ownBlock = some g ∨ w.heap.size ≤ g)) ∧
    MR (w1.setCell ⟨p, 0, none⟩ (.slice (some ⟨g, 0, none⟩) (n + 1) cap)) base p (.slice (some ⟨g, 0, none⟩) (n + 1) cap) (n + 1) (addT n ts t) (addN n ad w.heap.size) (addN n ln k) (addN n cp k) (addF n f fun _ => 0) := by
  have hbW : Below w.heap.size w (addW w t k) := by unfold addW; exact (by repeat' (first | exact Below.refl _ _ | (refine Below.alloc ?_ ?_ _) | (refine Below.setCell ?_ ?_ _) | (refine Below.drew ?_) | (refine below_next ?_ ?_ (by assumption)) | omega | (simp; done) | (simp; omega)))
  have hzW : (addW w t k).heap.size = w.heap.size + 1 + 1 := by unfold addW; simp
  have hw1 := hgrow.size
  have hpw := hm.hp.2
  have hgp : g ≠ p := by
    rcases hat with h | h
    · intro e; exact hm.hL (by rw [h, e])
    · omega
  have hgb : g ≠ w.heap.size := by
    rcases hat with h | h
    · have := (hm.own.blk g h).2; omega
    · omega
  have keep : ∀ b, b < w.heap.size + 1 + 1 → L.ownBlock ≠ some b → w1.heap[b]? = (addW w t k).heap[b]? := fun b hb hne => hgrow.block b (by omega) (fun e => hne e.symm)
  have keep0 : ∀ b, b < w.heap.size → L.ownBlock ≠ some b → w1.heap[b]? = w.heap[b]? := fun b hb hne => (keep b (by omega) hne).trans (hbW.block b hb)
  have hLw : L.ownBlock ≠ some w.heap.size := fun e => by have := (hm.own.blk _ e).2; omega
  have hset : ∀ b, b ≠ p → (w1.setCell ⟨p, 0, none⟩ (.slice (some ⟨g, 0, none⟩) (n + 1) cap)).heap[b]? = w1.heap[b]? := fun b hb => Below.heap_setCell w1 ⟨p, 0, none⟩ _ b hb
  have hsz : (w1.setCell ⟨p, 0, none⟩ (.slice (some ⟨g, 0, none⟩) (n + 1) cap)).heap.size = w1.heap.size := by simp
  have hc1 : w1.cell? ⟨p, 0, none⟩ = some L := (m_kept (p := ⟨p, 0, none⟩) (keep0 p hpw hm.hL)).trans hm.cell
  have hf1 : w1.frozen? ⟨p, 0, none⟩ = false := (m_frz (p := ⟨p, 0, none⟩) (keep0 p hpw hm.hL)).trans hm.frz
  refine ⟨⟨((hbW.mono hb0).grown hgrow (by omega) (fun q hq => (hm.own.blk q hq).1)).setCell (p := ⟨p, 0, none⟩) hm.hp.1 _, fun b hb h1 h2 => (hset b h1).trans (keep0 b hb h2), hat.imp id (fun e => by omega)⟩, ⟨hm.hp.1, by omega⟩, World.cell?_setCell_same _ _ _ hc1, by simpa [go_sem] using hf1, ?_, ?_, fun i hi => ?_, fun i j hi hj e => ?_, fun i j hi hj => ?_, fun i j hi hj => ?_⟩
  · have e : xsM (addT n ts t) (addN n ad w.heap.size) (addN n ln k) (addN n cp k) (n + 1) = xsM ts ad ln cp n ++ [.int .i64 t, .slice (some ⟨w.heap.size, 0, none⟩) k k] := by
      rw [xsM, xsM_congr (ts' := ts) (ad' := ad) (ln' := ln) (cp' := cp) n (fun i hi => by simp [addT, addN, Nat.ne_of_lt hi])]
      simp [addT, addN]
    rw [e]
    obtain ⟨h1, h2⟩ := hown
    refine ⟨h1, ?_⟩
    rcases h2 with h2 | ⟨g', cap', cur, h3, hg, hh, r⟩
    · simp at h2
    · have eg : g = g' := by simp at h3; exact h3.1
      subst eg
      exact .inr ⟨g, cap', cur, h3, hg, (hset g hgp).trans hh, r⟩
  · intro e; simp [Value.ownBlock] at e; exact hgp e
  · by_cases e : i = n
    · simp only [addN, e, if_true]
      exact ⟨hb0, by omega, by omega, fun q => hgb (by simpa [Value.ownBlock] using q), hk1, hk2, Nat.le_refl _⟩
    · simp only [addN, e, if_false]
      obtain ⟨h1, h2, h3, h4, h5⟩ := hm.hA i (by omega)
      refine ⟨h1, by omega, h3, fun q => ?_, h5⟩
      have q2 : g = ad i := by simpa [Value.ownBlock] using q
      rcases hat with h | h
      · exact h4 (by rw [h, q2])
      · omega
  · by_cases e1 : i = n
    · by_cases e2 : j = n
      · omega
      · simp only [addN, e1, e2, if_true, if_false] at e
        have := (hm.hA j (by omega)).2.1; omega
    · by_cases e2 : j = n
      · simp only [addN, e1, e2, if_true, if_false] at e
        have := (hm.hA i (by omega)).2.1; omega
      · simp only [addN, e1, e2, if_false] at e
        exact hm.inj i j (by omega) (by omega) e
  · by_cases e : i = n
    · subst e
      simp only [addN, addF, if_true] at hj ⊢
      rw [m_kept (w := w1) (p := ⟨w.heap.size, j, none⟩) (hset w.heap.size (by omega)), m_kept (w := addW w t k) (p := ⟨w.heap.size, j, none⟩) (keep w.heap.size (by omega) hLw)]
      exact (addW_new w t k).1 j hj
    · simp only [addN, addF, e, if_false] at hj ⊢
      have hA := hm.hA i (by omega)
      rw [m_kept (w := w1) (p := ⟨ad i, j, none⟩) (hset _ hA.2.2.1), m_kept (w := w) (p := ⟨ad i, j, none⟩) (keep0 _ hA.2.1 hA.2.2.2.1)]
      exact hm.inner i j (by omega) hj
  · by_cases e : i = n
    · subst e
      simp only [addN, if_true] at hj ⊢
      rw [m_frz (w := w1) (p := ⟨w.heap.size, j, none⟩) (hset w.heap.size (by omega)), m_frz (w := addW w t k) (p := ⟨w.heap.size, j, none⟩) (keep w.heap.size (by omega) hLw)]
      exact (addW_new w t k).2 j
    · simp only [addN, e, if_false] at hj ⊢
      have hA := hm.hA i (by omega)
      rw [m_frz (w := w1) (p := ⟨ad i, j, none⟩) (hset _ hA.2.2.1), m_frz (w := w) (p := ⟨ad i, j, none⟩) (keep0 _ hA.2.1 hA.2.2.2.1)]
      exact hm.ifrz i j (by omega) hj
set_option maxHeartbeats 1600000 in
theorem add_s (base p n : Nat) (L : Value) (ts : Nat → Int) (ad ln cp : Nat → Nat) (f : Nat → Nat → Int) (t s : Int) (w : World) (hm : MS w base p L n ts ad ln cp f) (hn : n ≤ 100000) (hb0 : base ≤ w.heap.size) :
    Calls Try.prog 12 #[.pointer (some ⟨p, 0, none⟩), .int .i64 t, .int .i64 s] w (AddedS w base p n L ts ad ln cp f t s) := by
  obtain ⟨i0, hi, hz⟩ := Option.map_eq_some_iff.1 infoB
  simp only [Prod.mk.injEq] at hz
  have HI := Lib.hid (And.intro hi hz)
  clear hi hz
  have HM := Lib.hid hm
  have HL := Lib.hid hm.hL
  have c0 := hm.cell
  have f0 := hm.frz
  have hp2 := hm.hp.2
  clear hm
  have hmk := fun (kl kc : IntKind) (w : World) => run_make_row' (P := Try.prog) 22 3 (.int .i64 0) 8 Try.underlying22 infoM rfl kl kc (sizeM s) (by have := sizeM_bd s; omega) (by have := sizeM_bd s; omega) w
  go_enter Try.func12, Try.ntmps12
  go_upto_region 3 with fail
  have hs1 : (if 1 < (if 16 < s then 16 else s) then (if 16 < s then 16 else s) else 1) = ((sizeM s : Nat) : Int) := by
    rw [sizeM_eq]; split <;> split <;> omega
  have hbW : Below w.heap.size w (addW w t (sizeM s)) := by unfold addW; exact (by repeat' (first | exact Below.refl _ _ | (refine Below.alloc ?_ ?_ _) | (refine Below.setCell ?_ ?_ _) | (refine Below.drew ?_) | (refine below_next ?_ ?_ (by assumption)) | omega | (simp; done) | (simp; omega)))
  have hnW := addW_news w t (sizeM s)
  have hzW : (addW w t (sizeM s)).heap.size = w.heap.size + 1 + 1 := by unfold addW; simp
  have HbW := Lib.hid hbW
  have HnW := Lib.hid hnW
  have HzW := Lib.hid hzW
  clear hbW hnW hzW
  have ne1 : (w.heap.size == p) = false := by simp; omega
  have ne2 : (w.heap.size + 1 == p) = false := by simp; omega
  go_region_law (first | (refine step_append_st (addW w t (sizeM s)) (by rfl) (.tmp 13) (.tmp 20) 43 (by rfl) base i0 (.agg #[.int .i64 0, .slice none 0 0]) 32 Try.underlying43 HI.out.1 HI.out.2.1 HI.out.2.2.1 HI.out.2.2.2 rfl L n _ (by rfl) (HM.out.own.keep (by have := HzW.out; omega) (fun b hb => HbW.out.block b (HM.out.own.blk b hb).2)) ⟨w.heap.size + 1, 0, none⟩ 1 [.int .i64 t, .slice (some ⟨w.heap.size, 0, none⟩) (sizeM s) (sizeM s)] (by rfl) rfl HnW.out (by simp [Value.oneCell']) (by unfold maxLen; omega) (by omega) (by have := HzW.out; omega) ?_; intro g cap w1 hown hgrow hat0 hlt; have hat : L.ownBlock = some g ∨ w.heap.size + 1 + 1 ≤ g := (by rw [← HzW.out]; exact hat0); clear hat0; have hc1 : w1.cell? ⟨p, 0, none⟩ = some L := (hgrow.cell_far ⟨p, 0, none⟩ (by have := HzW.out; show p < _; omega) (fun e => HL.out e.symm)).trans ((HbW.out.cell (p := ⟨p, 0, none⟩) hp2).trans c0); have hf1 : w1.frozen? ⟨p, 0, none⟩ = false := (hgrow.frozen_far ⟨p, 0, none⟩ (by have := HzW.out; show p < _; omega) (fun e => HL.out e.symm)).trans ((HbW.out.frozen (p := ⟨p, 0, none⟩) hp2).trans f0)))
  all_goals have hw : (w1.setCell ⟨p, 0, none⟩ (Value.slice (some ⟨g, 0, none⟩) (n + 1) cap)).cell? ⟨p, 0, none⟩ = some (.slice (some ⟨g, 0, none⟩) (n + 1) cap) := World.cell?_setCell_same _ _ _ hc1
  all_goals have hsl := sizeM_bd s
  all_goals have HA := Lib.hid (HM.out.added hb0 hsl.1 hsl.2 hown hgrow hat)
  all_goals clear hown hgrow hat hlt hsl
  all_goals refine at_normal (fun W => W.cell? ⟨p, 0, none⟩ = some (.slice (some ⟨g, 0, none⟩) (n + 1) cap) ∧ Hid ((Below base w W ∧ (∀ b, b < w.heap.size → b ≠ p → L.ownBlock ≠ some b → W.heap[b]? = w.heap[b]?) ∧ (L.ownBlock = some g ∨ w.heap.size ≤ g)) ∧ MR W base p (.slice (some ⟨g, 0, none⟩) (n + 1) cap) (n + 1) (addT n ts t) (addN n ad w.heap.size) (addN n ln (sizeM s)) (addN n cp (sizeM s)) (addF n f fun _ => 0))) ⟨hw, HA⟩ ?_
  all_goals clear hw HA hc1 hf1
  all_goals intro W ⟨hw, HA⟩
  all_goals go_wp2_with fail
  all_goals go_ret
  all_goals exact ⟨ret_i64 (by go_num), _, _, w.heap.size, Nat.le_refl _, HA.out.1, HA.out.2⟩
set_option maxHeartbeats 1600000 in
theorem radd_s (base p n : Nat) (L : Value) (ts : Nat → Int) (ad ln cp : Nat → Nat) (f : Nat → Nat → Int) (t s : Int) (w : World) (hm : MS w base p L n ts ad ln cp f) (hn : n ≤ 100000) (hb0 : base ≤ w.heap.size) :
    Calls Try.prog 17 #[.pointer (some ⟨p, 0, none⟩), .int .i64 t, .int .i64 s] w (AddedS w base p n L ts ad ln cp f t s) := by
  obtain ⟨i0, hi, hz⟩ := Option.map_eq_some_iff.1 infoB
  simp only [Prod.mk.injEq] at hz
  have HI := Lib.hid (And.intro hi hz)
  clear hi hz
  have HM := Lib.hid hm
  have HL := Lib.hid hm.hL
  have c0 := hm.cell
  have f0 := hm.frz
  have hp2 := hm.hp.2
  clear hm
  have hmk := fun (kl kc : IntKind) (w : World) => run_make_row' (P := Try.prog) 22 3 (.int .i64 0) 8 Try.underlying22 infoM rfl kl kc (sizeM s) (by have := sizeM_bd s; omega) (by have := sizeM_bd s; omega) w
  go_enter Try.func17, Try.ntmps17
  go_upto_region 1 with fail
  have hs1 : (if 1 < (if 16 < s then 16 else s) then (if 16 < s then 16 else s) else 1) = ((sizeM s : Nat) : Int) := by
    rw [sizeM_eq]; split <;> split <;> omega
  have hbW : Below w.heap.size w (addW w t (sizeM s)) := by unfold addW; exact (by repeat' (first | exact Below.refl _ _ | (refine Below.alloc ?_ ?_ _) | (refine Below.setCell ?_ ?_ _) | (refine Below.drew ?_) | (refine below_next ?_ ?_ (by assumption)) | omega | (simp; done) | (simp; omega)))
  have hnW := addW_news w t (sizeM s)
  have hzW : (addW w t (sizeM s)).heap.size = w.heap.size + 1 + 1 := by unfold addW; simp
  have HbW := Lib.hid hbW
  have HnW := Lib.hid hnW
  have HzW := Lib.hid hzW
  clear hbW hnW hzW
  have ne1 : (w.heap.size == p) = false := by simp; omega
  have ne2 : (w.heap.size + 1 == p) = false := by simp; omega
  go_region_law (first | (refine step_append_st (addW w t (sizeM s)) (by rfl) (.tmp 11) (.tmp 18) 43 (by rfl) base i0 (.agg #[.int .i64 0, .slice none 0 0]) 32 Try.underlying43 HI.out.1 HI.out.2.1 HI.out.2.2.1 HI.out.2.2.2 rfl L n _ (by rfl) (HM.out.own.keep (by have := HzW.out; omega) (fun b hb => HbW.out.block b (HM.out.own.blk b hb).2)) ⟨w.heap.size + 1, 0, none⟩ 1 [.int .i64 t, .slice (some ⟨w.heap.size, 0, none⟩) (sizeM s) (sizeM s)] (by rfl) rfl HnW.out (by simp [Value.oneCell']) (by unfold maxLen; omega) (by omega) (by have := HzW.out; omega) ?_; intro g cap w1 hown hgrow hat0 hlt; have hat : L.ownBlock = some g ∨ w.heap.size + 1 + 1 ≤ g := (by rw [← HzW.out]; exact hat0); clear hat0; have hc1 : w1.cell? ⟨p, 0, none⟩ = some L := (hgrow.cell_far ⟨p, 0, none⟩ (by have := HzW.out; show p < _; omega) (fun e => HL.out e.symm)).trans ((HbW.out.cell (p := ⟨p, 0, none⟩) hp2).trans c0); have hf1 : w1.frozen? ⟨p, 0, none⟩ = false := (hgrow.frozen_far ⟨p, 0, none⟩ (by have := HzW.out; show p < _; omega) (fun e => HL.out e.symm)).trans ((HbW.out.frozen (p := ⟨p, 0, none⟩) hp2).trans f0)))
  all_goals have hw : (w1.setCell ⟨p, 0, none⟩ (Value.slice (some ⟨g, 0, none⟩) (n + 1) cap)).cell? ⟨p, 0, none⟩ = some (.slice (some ⟨g, 0, none⟩) (n + 1) cap) := World.cell?_setCell_same _ _ _ hc1
  all_goals have hsl := sizeM_bd s
  all_goals have HA := Lib.hid (HM.out.added hb0 hsl.1 hsl.2 hown hgrow hat)
  all_goals clear hown hgrow hat hlt hsl
  all_goals refine at_normal (fun W => W.cell? ⟨p, 0, none⟩ = some (.slice (some ⟨g, 0, none⟩) (n + 1) cap) ∧ Hid ((Below base w W ∧ (∀ b, b < w.heap.size → b ≠ p → L.ownBlock ≠ some b → W.heap[b]? = w.heap[b]?) ∧ (L.ownBlock = some g ∨ w.heap.size ≤ g)) ∧ MR W base p (.slice (some ⟨g, 0, none⟩) (n + 1) cap) (n + 1) (addT n ts t) (addN n ad w.heap.size) (addN n ln (sizeM s)) (addN n cp (sizeM s)) (addF n f fun _ => 0))) ⟨hw, HA⟩ ?_
  all_goals clear hw HA hc1 hf1
  all_goals intro W ⟨hw, HA⟩
  all_goals go_wp2_with fail
  all_goals go_ret
  all_goals exact ⟨ret_i64 (by go_num), _, _, w.heap.size, Nat.le_refl _, HA.out.1, HA.out.2⟩
end Go.Proofs.Ytkgdogdallojlaa.C
