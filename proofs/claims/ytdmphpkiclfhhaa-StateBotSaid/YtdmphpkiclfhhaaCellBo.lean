/- cells.both, cells.Join, cells.Widen, r14.JoinCells, r14.WidenCells: walks. Printed by wip/gen_cellboth.py. -/
import Derived.Test.YtdmphpkiclfhhaaCellApp
namespace Go.Proofs.Ytdmphpkiclfhhaa.C
open Go.RowKit
set_option linter.unusedSimpArgs false
set_option linter.unusedVariables false
attribute [local go_sem] fieldItv0 fieldItv1
/-- A row is being filled. -/
def BoIn (w : World) (A : Option Addr) (n c : Nat) (r : Nat → Int × Int) (wr : World) : Prop := Below w.heap.size w wr ∧ OI wr w.heap.size A n c r
theorem BoIn.below {w wr w' : World} {A : Option Addr} {n c : Nat} {r : Nat → Int × Int} (h : BoIn w A n c r wr) (hb : Below wr.heap.size wr w') : BoIn w A n c r w' := ⟨below_next h.1 h.1.size hb, h.2.below hb⟩
theorem BoIn.put {w wr : World} {g n c k : Nat} {r : Nat → Int × Int} (h : BoIn w (some ⟨g, 0, none⟩) n c r wr) (hk : k < n) (p : Int × Int) :
    BoIn w (some ⟨g, 0, none⟩) n c (updI r k p) ((wr.setCell ⟨g, k * 2, none⟩ (.int .i64 p.1)).setCell ⟨g, k * 2 + 1, none⟩ (.int .i64 p.2)) := by
  have := h.2.ge
  exact ⟨(h.1.setCell (by show w.heap.size ≤ g; omega) _).setCell (by show w.heap.size ≤ g; omega) _, h.2.put hk p⟩
theorem BoIn.congr {w wr : World} {A : Option Addr} {n c : Nat} {r s : Nat → Int × Int} (h : BoIn w A n c r wr) (e : ∀ i, i < n → r i = s i) : BoIn w A n c s wr := ⟨h.1, h.2.congr e⟩
set_option maxRecDepth 100000 in
set_option maxHeartbeats 6400000 in
theorem bothJoin_c (A B : Option Addr) (n m c1 c2 : Nat) (r s : Nat → Int × Int) (w : World) (hn2 : n ≤ 1000) (h1 : CR w A n r) (h2 : CR w B m s) :
    Calls Try.prog 86 #[.slice A n c1, .slice B m c2, .func (.func (111)) #[] #[]] w (NewI n (joinC r s n m) w) := by
  have hmax2 := h2.1
  have HA := Lib.hid h1
  have HB := Lib.hid h2
  clear h1 h2
  go_enter Try.func86, Try.ntmps86
  go_upto_region 2 with (go_at_call 109; refine (cloneI_c A n c1 r _ hn2 HA.out).mono ?_; rintro e w1 ⟨A', c, rfl, ho, hb⟩)
  refine at_world (fun W => Hid (BoIn w A' n c r W)) (Lib.hid ⟨hb, ho⟩) ?_
  clear ho hb w1
  intro W1 H1
  have hmax := H1.out.2.max
  by_cases hnm : n = m
  · subst hnm
    go_wp2_with fail
    go_loopw [18] (fun v wr => ∃ k : Nat, k ≤ n ∧ v = .int .i64 k ∧ BoIn w A' n c (midI (joinC r s n n) r k) wr) (fun v _ => n - (intOf v).toNat)
    case atStart => exact ⟨0, by omega, rfl, H1.out.congr (fun i _ => by unfold midI; rw [if_neg (by omega)])⟩
    case round =>
      obtain ⟨k, hk, rfl, hi⟩ := hrel
      have HI := Lib.hid hi
      clear hi H1
      obtain ⟨wo, rfl⟩ : ∃ wo : World, wo = wr := ⟨_, rfl⟩
      by_cases hlt : k < n
      · have hk0 : (0 : Int) ≤ (k : Int) := by omega
        have hk1 : (k : Int) < (n : Int) := by omega
        obtain ⟨ad, rfl, _, c0, c1⟩ := (HA.out.below HI.out.1).at hlt
        obtain ⟨bd, rfl, _, e0, e1⟩ := (HB.out.below HI.out.1).at hlt
        obtain ⟨g, rfl, _⟩ := HI.out.2.at hlt
        obtain ⟨p, hp⟩ : ∃ p, r k = p := ⟨_, rfl⟩
        obtain ⟨q, hq⟩ : ∃ q, s k = q := ⟨_, rfl⟩
        rw [hp] at c0 c1
        rw [hq] at e0 e1
        have HN : Hid (joinC r s n n k = joinI p.1 p.2 q.1 q.2) := Lib.hid (by unfold joinC; rw [if_pos rfl, hp, hq])
        obtain ⟨z, hz⟩ : ∃ z, joinI p.1 p.2 q.1 q.2 = z := ⟨_, rfl⟩
        have LJ := fun W => itvJoin_c p.1 p.2 q.1 q.2 W
        simp only [hz] at LJ
        rw [hz] at HN
        have d0 := fun (x' : WIn (Below wo.heap.size wo)) => cell_later x'.h c0
        have d1 := fun (x' : WIn (Below wo.heap.size wo)) => cell_later x'.h c1
        have d2 := fun (x' : WIn (Below wo.heap.size wo)) => cell_later x'.h e0
        have d3 := fun (x' : WIn (Below wo.heap.size wo)) => cell_later x'.h e1
        clear c0 c1 e0 e1 hp hq hz
        go_upto_region 6 with fail
        refine region_tail 12 (Below wo.heap.size wo) (by kernel_rfl) (by kernel_rfl) (Below.refl _ _).drew (fun inst => ?_)
        simp only [List.take_succ_cons, List.take_zero, List.drop_succ_cons, List.drop_zero]
        iterate 12 (go_big_quiet_step ((go_at_call 111; exact call_grow (Nat.le_refl _) (LJ _))))
        refine wpQuiet_nil ?_
        intro wd hbd
        have H4 := Lib.hid (HI.out.below hbd)
        obtain ⟨g', e', _, _, c0, c1, f0, f1⟩ := H4.out.2.at hlt
        injection e' with e'
        injection e' with e'
        subst e'
        clear d0 d1 d2 d3
        go_wp2_with fail
        all_goals exact ⟨⟨k + 1, by omega, by go_num, (H4.out.put hlt z).congr (fun i _ => midI_step HN.out i)⟩, by simp [intOf]; omega⟩
      · obtain rfl : k = n := by omega
        clear hk hlt
        go_wp2_with fail
        go_ret
        exact ⟨A', c, rfl, HI.out.2.congr (fun i hi => by unfold midI; rw [if_pos hi]), HI.out.1⟩
  · have g : ((n : Int) = (m : Int)) = False := by simp; omega
    go_wp2_with fail
    go_ret
    exact ⟨A', c, rfl, H1.out.2.congr (fun i _ => by unfold joinC; rw [if_neg hnm]), H1.out.1⟩
theorem cjoin_c (A B : Option Addr) (n m c1 c2 : Nat) (r s : Nat → Int × Int) (w : World) (hn2 : n ≤ 1000) (h1 : CR w A n r) (h2 : CR w B m s) :
    Calls Try.prog 69 #[.slice A n c1, .slice B m c2] w (NewI n (joinC r s n m) w) := by
  have H := Lib.hid (bothJoin_c A B n m c1 c2 r s w hn2 h1 h2)
  clear h1 h2
  go_enter Try.func69, Try.ntmps69
  go_wp2_with (go_at_call 86; refine (H.out).mono ?_; rintro e w' ⟨A', c, rfl, ho, hb⟩; have HO := Lib.hid (And.intro ho hb); clear ho hb)
  go_ret
  exact ⟨A', c, rfl, HO.out⟩
theorem widen1_c (a b c d t : Int) (bt : Nat) (W : World) (hbt : bt < W.heap.size) (ht : W.cell? ⟨bt, 0, none⟩ = some (.int .i64 t)) :
    Calls Try.prog 87 #[.agg #[.int .i64 a, .int .i64 b], .agg #[.int .i64 c, .int .i64 d], .pointer (some ⟨bt, 0, none⟩)] W fun e w' => e = .returned (.agg #[.int .i64 ((widenI a b c d t).1), .int .i64 ((widenI a b c d t).2)]) ∧ Below W.heap.size W w' := by
  obtain ⟨z, hz⟩ : ∃ z, widenI a b c d t = z := ⟨_, rfl⟩
  have LW := fun W => itvWiden_c a b c d t W
  simp only [hz] at LW ⊢
  clear hz
  go_enter Try.func87, Try.ntmps87
  go_upto_region 1 with fail
  refine at_world (fun W' => Hid (Below W.heap.size W W' ∧ W'.heap.size = W.heap.size + 1 + 1 + 1 ∧ Bx (W.heap.size + 1 + 1) W' 0 0) ∧ (∀ o, W'.cell? ⟨W.heap.size, o, none⟩ = [Value.int .i64 a, Value.int .i64 b][o]?) ∧ (∀ o, W'.cell? ⟨W.heap.size + 1, o, none⟩ = [Value.int .i64 c, Value.int .i64 d][o]?) ∧ W'.cell? ⟨bt, 0, none⟩ = some (.int .i64 t)) ?_ ?_
  · have hb1 : Below W.heap.size W (W.alloc (.cells #[.int .i64 a, .int .i64 b] 39)) := (Below.refl _ _).alloc (Nat.le_refl _) _
    have hb2 : Below W.heap.size W ((W.alloc (.cells #[.int .i64 a, .int .i64 b] 39)).alloc (.cells #[.int .i64 c, .int .i64 d] 39)) := hb1.alloc (by simp) _
    have h3 := Bx.new ((W.alloc (.cells #[.int .i64 a, .int .i64 b] 39)).alloc (.cells #[.int .i64 c, .int .i64 d] 39)) 39 0 0
    have e3 : ((W.alloc (.cells #[.int .i64 a, .int .i64 b] 39)).alloc (.cells #[.int .i64 c, .int .i64 d] 39)).heap.size = W.heap.size + 1 + 1 := by simp
    rw [e3] at h3
    have hb3 := hb2.alloc (by rw [e3]; omega) (.cells #[.int .i64 0, .int .i64 0] 39)
    exact ⟨Lib.hid ⟨hb3, by simp, h3⟩, (by intro o; simp [go_sem]), (by intro o; simp [go_sem]), cell_later hb3 ht⟩
  clear ht
  intro W' ⟨H, k0, k1, k2⟩
  go_upto_region 2 with (go_at_call 88; refine (LW _).mono ?_; rintro e w3 ⟨rfl, hb3⟩; have H3 := Lib.hid (And.intro (below_next H.out.1 H.out.1.size hb3) (H.out.2.2.below hb3)); clear hb3; have k4 := H3.out.2.2.1; have f4 := H3.out.2.2.2)
  refine bodyPost_ret (v := .agg #[.int .i64 (z.1), .int .i64 (z.2)]) (by simp [results, Try.results87, go_sem, *]) rfl ⟨rfl, ?_⟩
  exact (H3.out.1.setCell (by show W.heap.size ≤ W.heap.size + 1 + 1; omega) _).setCell (by show W.heap.size ≤ W.heap.size + 1 + 1; omega) _
set_option maxRecDepth 100000 in
set_option maxHeartbeats 6400000 in
theorem bothWiden_c (A B : Option Addr) (n m c1 c2 : Nat) (r s : Nat → Int × Int) (t : Int) (bt : Nat) (w : World) (hn2 : n ≤ 1000) (hbt : bt < w.heap.size) (ht : w.cell? ⟨bt, 0, none⟩ = some (.int .i64 t)) (h1 : CR w A n r) (h2 : CR w B m s) :
    Calls Try.prog 86 #[.slice A n c1, .slice B m c2, .func (.func (87)) #[] #[.pointer (some ⟨bt, 0, none⟩)]] w (NewI n (widenC r s n m t) w) := by
  have hmax2 := h2.1
  have HA := Lib.hid h1
  have HB := Lib.hid h2
  have HT := Lib.hid ht
  clear ht
  clear h1 h2
  go_enter Try.func86, Try.ntmps86
  go_upto_region 2 with (go_at_call 109; refine (cloneI_c A n c1 r _ hn2 HA.out).mono ?_; rintro e w1 ⟨A', c, rfl, ho, hb⟩)
  refine at_world (fun W => Hid (BoIn w A' n c r W)) (Lib.hid ⟨hb, ho⟩) ?_
  clear ho hb w1
  intro W1 H1
  have hmax := H1.out.2.max
  by_cases hnm : n = m
  · subst hnm
    go_wp2_with fail
    go_loopw [18] (fun v wr => ∃ k : Nat, k ≤ n ∧ v = .int .i64 k ∧ BoIn w A' n c (midI (widenC r s n n t) r k) wr) (fun v _ => n - (intOf v).toNat)
    case atStart => exact ⟨0, by omega, rfl, H1.out.congr (fun i _ => by unfold midI; rw [if_neg (by omega)])⟩
    case round =>
      obtain ⟨k, hk, rfl, hi⟩ := hrel
      have HI := Lib.hid hi
      clear hi H1
      obtain ⟨wo, rfl⟩ : ∃ wo : World, wo = wr := ⟨_, rfl⟩
      by_cases hlt : k < n
      · have hk0 : (0 : Int) ≤ (k : Int) := by omega
        have hk1 : (k : Int) < (n : Int) := by omega
        obtain ⟨ad, rfl, _, c0, c1⟩ := (HA.out.below HI.out.1).at hlt
        obtain ⟨bd, rfl, _, e0, e1⟩ := (HB.out.below HI.out.1).at hlt
        obtain ⟨g, rfl, _⟩ := HI.out.2.at hlt
        obtain ⟨p, hp⟩ : ∃ p, r k = p := ⟨_, rfl⟩
        obtain ⟨q, hq⟩ : ∃ q, s k = q := ⟨_, rfl⟩
        rw [hp] at c0 c1
        rw [hq] at e0 e1
        have HN : Hid (widenC r s n n t k = widenI p.1 p.2 q.1 q.2 t) := Lib.hid (by unfold widenC; rw [if_pos rfl, hp, hq])
        obtain ⟨z, hz⟩ : ∃ z, widenI p.1 p.2 q.1 q.2 t = z := ⟨_, rfl⟩
        have HSZ := HI.out.1.size
        have LJ := fun (x' : WIn (Below wo.heap.size wo)) => widen1_c p.1 p.2 q.1 q.2 t bt x'.w (by have := x'.h.size; omega) (cell_later x'.h (cell_later HI.out.1 HT.out))
        simp only [hz] at LJ
        clear HSZ
        rw [hz] at HN
        have d0 := fun (x' : WIn (Below wo.heap.size wo)) => cell_later x'.h c0
        have d1 := fun (x' : WIn (Below wo.heap.size wo)) => cell_later x'.h c1
        have d2 := fun (x' : WIn (Below wo.heap.size wo)) => cell_later x'.h e0
        have d3 := fun (x' : WIn (Below wo.heap.size wo)) => cell_later x'.h e1
        clear c0 c1 e0 e1 hp hq hz
        go_upto_region 6 with fail
        refine region_tail 12 (Below wo.heap.size wo) (by kernel_rfl) (by kernel_rfl) (Below.refl _ _).drew (fun inst => ?_)
        simp only [List.take_succ_cons, List.take_zero, List.drop_succ_cons, List.drop_zero]
        iterate 12 (go_big_quiet_step ((go_at_call 87; exact call_grow (Nat.le_refl _) (LJ _))))
        refine wpQuiet_nil ?_
        intro wd hbd
        have H4 := Lib.hid (HI.out.below hbd)
        obtain ⟨g', e', _, _, c0, c1, f0, f1⟩ := H4.out.2.at hlt
        injection e' with e'
        injection e' with e'
        subst e'
        clear d0 d1 d2 d3
        go_wp2_with fail
        all_goals exact ⟨⟨k + 1, by omega, by go_num, (H4.out.put hlt z).congr (fun i _ => midI_step HN.out i)⟩, by simp [intOf]; omega⟩
      · obtain rfl : k = n := by omega
        clear hk hlt
        go_wp2_with fail
        go_ret
        exact ⟨A', c, rfl, HI.out.2.congr (fun i hi => by unfold midI; rw [if_pos hi]), HI.out.1⟩
  · have g : ((n : Int) = (m : Int)) = False := by simp; omega
    go_wp2_with fail
    go_ret
    exact ⟨A', c, rfl, H1.out.2.congr (fun i _ => by unfold widenC; rw [if_neg hnm]), H1.out.1⟩
theorem cwiden_c (A B : Option Addr) (n m c1 c2 : Nat) (r s : Nat → Int × Int) (t : Int) (w : World) (hn2 : n ≤ 1000) (h1 : CR w A n r) (h2 : CR w B m s) :
    Calls Try.prog 45 #[.slice A n c1, .slice B m c2, .int .i64 t] w (NewI n (widenC r s n m t) w) := by
  have hal : Below w.heap.size w (w.alloc (.cells #[.int .i64 t] 3)) := (Below.refl _ _).alloc (Nat.le_refl _) _
  have H := Lib.hid (bothWiden_c A B n m c1 c2 r s t w.heap.size (w.alloc (.cells #[.int .i64 t] 3)) hn2 (by simp) (by simp [go_sem]) (h1.below hal) (h2.below hal))
  clear h1 h2
  go_enter Try.func45, Try.ntmps45
  go_wp2_with (go_at_call 86; refine (H.out).mono ?_; rintro e w' ⟨A', c, rfl, ho, hb⟩; have HO := Lib.hid (And.intro ho hb); clear ho hb)
  go_ret
  exact ⟨A', c, rfl, HO.out.1.mono (by simp), below_next hal hal.size HO.out.2⟩
set_option maxRecDepth 100000 in
set_option maxHeartbeats 6400000 in
theorem rJoin_c (A B : Option Addr) (n m c1 c2 : Nat) (r s : Nat → Int × Int) (w : World) (hn2 : n ≤ 1000) (h1 : CR w A n r) (h2 : CR w B m s) :
    Calls Try.prog 39 #[.slice A n c1, .slice B m c2] w (NewI n (joinC r s n m) w) := by
  have hmax2 := h2.1
  have HA := Lib.hid h1
  have HB := Lib.hid h2
  clear h1 h2
  go_enter Try.func39, Try.ntmps39
  have hcr : CR (w.alloc (.cells #[] 39)) A n r := HA.out.below ((Below.refl _ _).alloc (Nat.le_refl _) _)
  go_upto_region 2 with (at_builtin; refine wpList_append_itv rfl _ _ rfl w.heap.size (.slice (some ⟨w.heap.size, 0, none⟩) 0 0) 0 [] (by rfl) (ownI_empty w 39 2) A n c1 r (by rfl) hcr (by omega) (by omega) (by simp) ?_; intro v' w1 hown hg hat)
  have hb : Below w.heap.size w w1 := ((Below.refl _ _).alloc (Nat.le_refl _) _).grown hg (by simp) (by rintro k hk; simp [Value.ownBlock] at hk; omega)
  simp only [Nat.zero_add, List.nil_append] at hown
  obtain ⟨A', c, rfl, ho⟩ := OI.of hown
  refine at_world (fun W => Hid (BoIn w A' n c r W)) (Lib.hid ⟨hb, ho⟩) ?_
  clear ho hb hown hg hat hcr w1
  intro W1 H1
  have hmax := H1.out.2.max
  by_cases hnm : n = m
  · subst hnm
    go_wp2_with fail
    go_loopw [6] (fun v wr => ∃ k : Nat, k ≤ n ∧ v = .int .i64 k ∧ BoIn w A' n c (midI (joinC r s n n) r k) wr) (fun v _ => n - (intOf v).toNat)
    case atStart => exact ⟨0, by omega, rfl, H1.out.congr (fun i _ => by unfold midI; rw [if_neg (by omega)])⟩
    case round =>
      obtain ⟨k, hk, rfl, hi⟩ := hrel
      have HI := Lib.hid hi
      clear hi H1
      obtain ⟨wo, rfl⟩ : ∃ wo : World, wo = wr := ⟨_, rfl⟩
      by_cases hlt : k < n
      · have hk0 : (0 : Int) ≤ (k : Int) := by omega
        have hk1 : (k : Int) < (n : Int) := by omega
        obtain ⟨ad, rfl, _, c0, c1⟩ := (HA.out.below HI.out.1).at hlt
        obtain ⟨bd, rfl, _, e0, e1⟩ := (HB.out.below HI.out.1).at hlt
        obtain ⟨g, rfl, _⟩ := HI.out.2.at hlt
        obtain ⟨p, hp⟩ : ∃ p, r k = p := ⟨_, rfl⟩
        obtain ⟨q, hq⟩ : ∃ q, s k = q := ⟨_, rfl⟩
        rw [hp] at c0 c1
        rw [hq] at e0 e1
        have HN : Hid (joinC r s n n k = joinI p.1 p.2 q.1 q.2) := Lib.hid (by unfold joinC; rw [if_pos rfl, hp, hq])
        obtain ⟨z, hz⟩ : ∃ z, joinI p.1 p.2 q.1 q.2 = z := ⟨_, rfl⟩
        have LJ := fun W => riJoin_c p.1 p.2 q.1 q.2 W
        simp only [hz] at LJ
        rw [hz] at HN
        have d0 := fun (x' : WIn (Below wo.heap.size wo)) => cell_later x'.h c0
        have d1 := fun (x' : WIn (Below wo.heap.size wo)) => cell_later x'.h c1
        have d2 := fun (x' : WIn (Below wo.heap.size wo)) => cell_later x'.h e0
        have d3 := fun (x' : WIn (Below wo.heap.size wo)) => cell_later x'.h e1
        clear c0 c1 e0 e1 hp hq hz
        go_upto_region 5 with fail
        refine region_tail 11 (Below wo.heap.size wo) (by kernel_rfl) (by kernel_rfl) (Below.refl _ _).drew (fun inst => ?_)
        simp only [List.take_succ_cons, List.take_zero, List.drop_succ_cons, List.drop_zero]
        iterate 11 (go_big_quiet_step ((go_at_call 83; exact call_grow (Nat.le_refl _) (LJ _))))
        refine wpQuiet_nil ?_
        intro wd hbd
        have H4 := Lib.hid (HI.out.below hbd)
        obtain ⟨g', e', _, _, c0, c1, f0, f1⟩ := H4.out.2.at hlt
        injection e' with e'
        injection e' with e'
        subst e'
        clear d0 d1 d2 d3
        go_wp2_with fail
        all_goals exact ⟨⟨k + 1, by omega, by go_num, (H4.out.put hlt z).congr (fun i _ => midI_step HN.out i)⟩, by simp [intOf]; omega⟩
      · obtain rfl : k = n := by omega
        clear hk hlt
        go_wp2_with fail
        go_ret
        exact ⟨A', c, rfl, HI.out.2.congr (fun i hi => by unfold midI; rw [if_pos hi]), HI.out.1⟩
  · have g : ((n : Int) = (m : Int)) = False := by simp; omega
    have H0 : Hid (NewI n (joinC r s n m) w (.returned (.slice A' n c)) W1) := Lib.hid ⟨A', c, rfl, H1.out.2.congr (fun i _ => by unfold joinC; rw [if_neg hnm]), H1.out.1⟩
    clear H1
    by_cases hz : 0 < n
    · have g0 : decide ((0 : Int) < (n : Int)) = true := decide_eq_true (by omega)
      have g1 : (0 : Int) < (n : Int) := by omega
      go_wp2_with fail
      go_loopw [6] (fun v wr => v = .int .i64 0 ∧ wr = W1) (fun v _ => 0)
      case atStart => exact ⟨rfl, rfl⟩
      case round =>
        obtain ⟨rfl, rfl⟩ := hrel
        go_wp2_with fail
        go_ret
        exact H0.out
    · obtain rfl : n = 0 := by omega
      go_wp2_with fail
      go_loopw [6] (fun v wr => v = .int .i64 0 ∧ wr = W1) (fun v _ => 0)
      case atStart => exact ⟨rfl, rfl⟩
      case round =>
        obtain ⟨rfl, rfl⟩ := hrel
        go_wp2_with fail
        go_ret
        exact H0.out
end Go.Proofs.Ytdmphpkiclfhhaa.C
