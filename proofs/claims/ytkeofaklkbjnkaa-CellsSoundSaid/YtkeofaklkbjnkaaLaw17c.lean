/- CellsSound: plain facts and walk. -/
import Derived.Test.YtkeofaklkbjnkaaCellAw
import Derived.Test.YtkeofaklkbjnkaaCellBo
import Derived.Test.YtkeofaklkbjnkaaCellLe
import Derived.Test.YtkeofaklkbjnkaaWf
import Derived.Deep.AppendLies
namespace Go.Proofs.Ytkeofaklkbjnkaa.C
open Go.RowKit
set_option linter.unusedSimpArgs false
set_option linter.unusedVariables false
attribute [local go_sem] fieldItv0 fieldItv1
def inI (p : Int × Int) (z : Int) : Prop := p.1 ≤ z ∧ z ≤ p.2
theorem told_in {a b z : Int} (h : a ≤ z ∧ z ≤ b) : inI (toldI a b) z := by
  unfold toldI inI
  rw [if_neg (by omega)]
  exact h
theorem join_l {a b c d z : Int} (h : a ≤ z ∧ z ≤ b) : inI (joinI a b c d) z := by
  unfold joinI
  rw [if_neg (by omega)]
  by_cases e : d < c
  · rw [if_pos e]; exact told_in h
  · rw [if_neg e]; unfold inI; simp only; omega
theorem join_r {a b c d z : Int} (h : c ≤ z ∧ z ≤ d) : inI (joinI a b c d) z := by
  unfold joinI
  by_cases e : b < a
  · rw [if_pos e]; exact told_in h
  · rw [if_neg e, if_neg (by omega)]; unfold inI; simp only; omega
theorem le_join_l (a b c d : Int) : leI a b (joinI a b c d).1 (joinI a b c d).2 = true := by
  unfold leI joinI toldI
  rw [decide_eq_true_eq]
  (repeat' split) <;> simp <;> omega
theorem le_join_r (a b c d : Int) : leI c d (joinI a b c d).1 (joinI a b c d).2 = true := by
  unfold leI joinI toldI
  rw [decide_eq_true_eq]
  (repeat' split) <;> simp <;> omega
theorem leC_join_l (r s : Nat → Int × Int) (n : Nat) : leC r (joinC r s n n) n n = true := decide_eq_true ⟨rfl, fun i _ => by unfold joinC; rw [if_pos rfl]; exact le_join_l _ _ _ _⟩
theorem leC_join_r (r s : Nat → Int × Int) (n : Nat) : leC s (joinC r s n n) n n = true := decide_eq_true ⟨rfl, fun i _ => by unfold joinC; rw [if_pos rfl]; exact le_join_r _ _ _ _⟩
theorem readC_has (r : Nat → Int × Int) (a b : Int) {n k : Nat} {z : Int} (hk : k < n) (ha : a ≤ (k : Int) ∧ (k : Int) ≤ b) (hz : inI (r k) z) : inI (readC r a b n) z := by
  induction n with
  | zero => omega
  | succ n ih =>
    rw [readC]
    by_cases e : k = n
    · subst e
      rw [if_pos ha]
      exact join_r hz
    · have := ih (by omega)
      by_cases c : a ≤ (n : Int) ∧ (n : Int) ≤ b
      · rw [if_pos c]; exact join_l this
      · rw [if_neg c]; exact this
/-- The row that the law builds. -/
def mkC (zs us : List Int) : Nat → Int × Int := fun i => (zs.getD i 0 - us.getD i 0 % 5, zs.getD i 0 + us.getD i 0 % 7)
theorem mkC_in (zs us : List Int) (i : Nat) : inI (mkC zs us i) (zs.getD i 0) := by unfold mkC inI; simp only; omega
theorem write_in (zs us : List Int) (K lo hi : Nat) (v more : Int) (hm : 0 ≤ more) (i : Nat) : inI (writeC (mkC zs us) ((K : Int) - lo) ((K : Int) + hi) v (v + more) i) (if i = K then v else zs.getD i 0) := by
  unfold writeC
  by_cases h : (K : Int) - lo ≤ (i : Int) ∧ (i : Int) ≤ (K : Int) + hi
  · rw [if_pos h]
    by_cases e : (K : Int) - lo = (K : Int) + hi
    · rw [if_pos e, if_pos (by omega)]
      exact told_in (by omega)
    · rw [if_neg e]
      by_cases c : i = K
      · rw [if_pos c]; exact join_r (by omega)
      · rw [if_neg c]; exact join_l (mkC_in zs us i)
  · rw [if_neg h, if_neg (by omega)]
    exact mkC_in zs us i
/-- The cells of one interval that has been made just now. -/
theorem news_one2 (W : World) (x y : Int) (t : TypeId) : ∀ j u, ([Value.int .i64 x, Value.int .i64 y] : List Value)[j]? = some u → (W.alloc (.cells #[.int .i64 x, .int .i64 y] t)).cell? ((⟨W.heap.size, 0, none⟩ : Addr).add j) = some u := by
  intro j u hu
  rw [i_plain, cell_of_row _ _ _ _ _ _ (heap_alloc_new W _)]
  simpa using hu
theorem snd_below {w W W' : World} {base : Nat} {A B : Option Addr} {n m c d : Nat} {r s : Nat → Int × Int} (h : Below w.heap.size w W ∧ OI W base A n c r ∧ OI W base B m d s) (hb : Below W.heap.size W W') : Below w.heap.size w W' ∧ OI W' base A n c r ∧ OI W' base B m d s :=
  ⟨below_next h.1 h.1.size hb, h.2.1.below hb, h.2.2.below hb⟩
set_option maxRecDepth 100000 in
set_option maxHeartbeats 12800000 in
theorem cellsSound_c (A B : Option Addr) (n m c1 c2 : Nat) (zs us : List Int) (at' lo hi v more : Int) (w : World) (hz : IntRow w .i16 A n zs) (hu : IntRow w .u8 B m us)
    (ha : 0 ≤ at' ∧ at' ≤ 255) (hlo : 0 ≤ lo ∧ lo ≤ 255) (hhi : 0 ≤ hi ∧ hi ≤ 255) (hv : -32768 ≤ v ∧ v ≤ 32767) (hmo : 0 ≤ more ∧ more ≤ 255) :
    Calls Try.prog 4 #[.slice A n c1, .slice B m c2, .int .u8 at', .int .u8 lo, .int .u8 hi, .int .i16 v, .int .u8 more] w fun e w' => e = .returned (.bool true) ∧ Below w.heap.size w w' := by
  have hmax : n ≤ 9223372036854775807 := by have := hz.2.1; unfold maxLen at this; exact this
  have hmax2 : m ≤ 9223372036854775807 := by have := hu.2.1; unfold maxLen at this; exact this
  have HZ := Lib.hid hz
  have HU := Lib.hid hu
  have HL := Lib.hid (And.intro ha (And.intro hlo (And.intro hhi (And.intro hv hmo))))
  clear hz hu ha hlo hhi hv hmo
  have hAW : ∀ W : World, Calls Try.prog 10 #[] W fun e w' => e = .returned (.bool true) ∧ Below W.heap.size W w' := awake17_c
  by_cases h0 : n = 0
  · subst h0
    go_enter Try.func4, Try.ntmps4
    go_wp2_with (go_at_call 10; refine (hAW _).mono ?_; rintro e w' ⟨rfl, hb⟩)
    go_ret
    exact ⟨rfl, hb⟩
  have g0 : ((n : Int) == 0) = false := by rw [beq_eq_false_iff_ne]; omega
  have g0' : decide ((n : Int) = 0) = false := decide_eq_false (by omega)
  have g0n : (n = 0) = False := eq_false h0
  by_cases h16 : 16 < n
  · have g1 : decide (16 < n) = true := decide_eq_true h16
    have g1' : decide (16 < (n : Int)) = true := decide_eq_true (by omega)
    go_enter Try.func4, Try.ntmps4
    go_wp2_with (go_at_call 10; refine (hAW _).mono ?_; rintro e w' ⟨rfl, hb⟩)
    go_ret
    exact ⟨rfl, hb⟩
  have g1 : decide (16 < n) = false := decide_eq_false h16
  have g1' : decide (16 < (n : Int)) = false := decide_eq_false (by omega)
  by_cases hmn : m < n
  · have g2 : decide (m < n) = true := decide_eq_true hmn
    have g2' : decide ((m : Int) < (n : Int)) = true := decide_eq_true (by omega)
    go_enter Try.func4, Try.ntmps4
    go_wp2_with (go_at_call 10; refine (hAW _).mono ?_; rintro e w' ⟨rfl, hb⟩)
    go_ret
    exact ⟨rfl, hb⟩
  have g2 : decide (m < n) = false := decide_eq_false hmn
  have g2' : decide ((m : Int) < (n : Int)) = false := decide_eq_false (by omega)
  have HN := Lib.hid (show 1 ≤ n ∧ n ≤ 16 ∧ n ≤ m by omega)
  go_enter Try.func4, Try.ntmps4
  go_upto_region 4 with fail
  clear h0 g0 g0' g0n h16 g1 g1' hmn g2 g2'
  go_wp2_with fail
  go_loopw [15, 16] (fun s i wr => ∃ (k : Nat) (A' : Option Addr) (c : Nat), k ≤ n ∧ i = .int .i64 k ∧ s = .slice A' k c ∧ Hid (OI wr w.heap.size A' k c (mkC zs us) ∧ Below w.heap.size w wr)) (fun _ i _ => n - (intOf i).toNat)
  case atStart => exact ⟨0, none, 0, by omega, rfl, rfl, Lib.hid ⟨World.ownsRow_nil _ _ _ _, Below.refl _ _⟩⟩
  case round =>
    obtain ⟨k, A', c, hk, rfl, rfl, HI⟩ := hrel
    obtain ⟨wo, rfl⟩ : ∃ wo : World, wo = wr := ⟨_, rfl⟩
    by_cases hlt : k < n
    · have hk0 : (0 : Int) ≤ (k : Int) := by omega
      have hk1 : (k : Int) < (n : Int) := by omega
      have hk2 : (k : Int) < (m : Int) := by have := HN.out.2.2; omega
      obtain ⟨ad, rfl, hal, hac⟩ := HZ.out.2.2.2 (by omega)
      obtain ⟨bd, rfl, hbl, hbc⟩ := HU.out.2.2.2 (by have := HN.out; omega)
      have c0 := (HI.out.2.drew.cell (p := ad.add k) (by rw [add_block]; exact hal)).trans (hac k hlt)
      have d0 := (HI.out.2.drew.cell (p := bd.add k) (by rw [add_block]; exact hbl)).trans (hbc k (by omega))
      have hwz : -32768 ≤ zs.getD k 0 ∧ zs.getD k 0 ≤ 32767 := C.wf_i16 (HZ.out.wf hlt)
      have hwu : 0 ≤ us.getD k 0 ∧ us.getD k 0 ≤ 255 := C.wf_u8 (HU.out.wf (by omega))
      have HM : Hid (mkC zs us k = (zs.getD k 0 - us.getD k 0 % 5, zs.getD k 0 + us.getD k 0 % 7)) := Lib.hid rfl
      obtain ⟨z, hz⟩ : ∃ z, zs.getD k 0 = z := ⟨_, rfl⟩
      obtain ⟨u, hu⟩ : ∃ u, us.getD k 0 = u := ⟨_, rfl⟩
      rw [hz, hu] at HM
      rw [hz] at c0 hwz
      rw [hu] at d0 hwu
      obtain ⟨hz1, hz2⟩ := hwz
      obtain ⟨hu1, hu2⟩ := hwu
      have HNe : Hid (¬ some ad.block = (Value.slice A' k c).ownBlock) := Lib.hid (fun e => by have := (HI.out.1.blk _ e.symm).1; omega)
      have HNf : Hid (¬ some bd.block = (Value.slice A' k c).ownBlock) := Lib.hid (fun e => by have := (HI.out.1.blk _ e.symm).1; omega)
      clear hac hbc hal hbl hz hu
      obtain ⟨i0, hi, hzz⟩ := Option.map_eq_some_iff.1 infoItv
      simp only [Prod.mk.injEq] at hzz
      have HInf := Lib.hid (And.intro hi hzz)
      clear hi hzz
      have hn16 := HN.out.2.1
      have hw1 : IntKind.i64.wrap z = z := by rw [IntKind.wrap_i64]; omega
      have hw2 : IntKind.i64.wrap u = u := by rw [IntKind.wrap_i64]; omega
      obtain ⟨u5, h5⟩ : ∃ x, u.tmod 5 = x := ⟨_, rfl⟩
      obtain ⟨u7, h7⟩ : ∃ x, u.tmod 7 = x := ⟨_, rfl⟩
      have e5 : u % 5 = u5 := by rw [← h5, Int.tmod_eq_emod_of_nonneg hu1]
      have e7 : u % 7 = u7 := by rw [← h7, Int.tmod_eq_emod_of_nonneg hu1]
      have b5 : 0 ≤ u5 ∧ u5 < 5 := by omega
      have b7 : 0 ≤ u7 ∧ u7 < 7 := by omega
      obtain ⟨p1, hp1⟩ : ∃ x, z - u5 = x := ⟨_, rfl⟩
      obtain ⟨p2, hp2⟩ : ∃ x, z + u7 = x := ⟨_, rfl⟩
      have hq1 : IntKind.i64.wrap (z - u5) = p1 := by rw [hp1, IntKind.wrap_i64]; omega
      have hq2 : IntKind.i64.wrap (z + u7) = p2 := by rw [hp2, IntKind.wrap_i64]; omega
      rw [e5, e7, hp1, hp2] at HM
      clear hp1 hp2 e5 e7 b5 b7
      have HO : Hid (∀ o, ((wo.alloc o).drew).ownsRow w.heap.size 26 2 (.slice A' k c) k (xsI (mkC zs us) k)) := Lib.hid (fun o => ownI_below HI.out.1 ((Below.refl _ _).alloc (Nat.le_refl _) o).drew)
      have hszw := HI.out.2.size
      have c0a := fun o : Obj => cell_later (w := wo) ((Below.refl _ _).alloc (Nat.le_refl _) o).drew c0
      have d0a := fun o : Obj => cell_later (w := wo) ((Below.refl _ _).alloc (Nat.le_refl _) o).drew d0
      have hHd : ∀ o : Obj, (wo.alloc o).drew.heap.size = wo.heap.size + 1 := fun o => by simp
      have HHd := Lib.hid hHd
      have HNw : Hid (∀ j u, ([Value.int .i64 p1, Value.int .i64 p2] : List Value)[j]? = some u → (wo.alloc (.cells #[.int .i64 p1, .int .i64 p2] 26)).drew.cell? ((⟨wo.heap.size, 0, none⟩ : Addr).add j) = some u) := Lib.hid (news_one2 wo p1 p2 26)
      clear hHd
      go_upto_region 7 with fail
      go_region_held3 (fun w' => w'.cell? (ad.add k) = some (Value.int .i16 z) ∧ w'.cell? (bd.add k) = some (Value.int .u8 u)) (first | exact ⟨c0, d0⟩ | exact ⟨c0a _, d0a _⟩ | exact ⟨c0b, d0b⟩) ((first | (refine step_append_lies (wo.alloc (.cells #[.int .i64 p1, .int .i64 p2] 26)).drew (by rfl) (.tmp 45) (.tmp 71) 23 (by rfl) w.heap.size 26 i0 (.agg #[.int .i64 0, .int .i64 0]) 2 16 Try.underlying23 HInf.out.1 HInf.out.2.1 HInf.out.2.2.1 HInf.out.2.2.2 rfl (by omega) (.slice A' k c) k _ (by rfl) (HO.out _) ⟨wo.heap.size, 0, none⟩ 1 1 [.int .i64 p1, .int .i64 p2] (by rfl) rfl HNw.out (by simp [Value.oneCell']) (by omega) (by unfold maxLen; omega) (by omega) (by rw [HHd.out]; omega) (wo.heap.size + 1) (HHd.out _) ?_; intro g cap w1 hown hgrow hat hlt1; have HG := Lib.hid (And.intro hown (And.intro hgrow (And.intro hat hlt1))); have c0b : w1.cell? (ad.add k) = some (Value.int .i16 z) := hgrow.cell (c0a _) (by rw [add_block]; exact (fun e => HNe.out e)); have d0b : w1.cell? (bd.add k) = some (Value.int .u8 u) := hgrow.cell (d0a _) (by rw [add_block]; exact (fun e => HNf.out e)); clear hown hgrow hat hlt1)))
      have hown := HG.out.1
      have hm' : [Value.int .i64 p1, Value.int .i64 p2] = [.int .i64 (mkC zs us k).1, .int .i64 (mkC zs us k).2] := by rw [HM.out]
      rw [hm', xsI_snoc] at hown
      have HR2 : Hid (OI w1 w.heap.size (some ⟨g, 0, none⟩) (k + 1) cap (mkC zs us) ∧ Below w.heap.size w w1) := Lib.hid ⟨hown, (((HI.out.2).alloc HI.out.2.size _).drew).grown HG.out.2.1 (by rw [HHd.out]; omega) (fun q hq => (HI.out.1.blk q hq).1)⟩
      clear hown hm' HG c0b d0b c0a d0a c0 d0 HNe HNf HO HHd HNw HM HInf hw1 hw2 h5 h7 hq1 hq2 hz1 hz2 hu1 hu2
      go_wp2_with fail
      all_goals exact ⟨⟨k + 1, _, _, by omega, by go_num, rfl, HR2⟩, by simp [intOf]; omega⟩
    · obtain rfl : k = n := by omega
      clear hk hlt
      obtain ⟨⟨ha1, ha2⟩, ⟨hl1, hl2⟩, ⟨hh1, hh2⟩, ⟨hv1, hv2⟩, ⟨hm1, hm2⟩⟩ := HL.out
      have hn1 := HN.out.1
      have hn16 := HN.out.2.1
      obtain ⟨K, hK⟩ : ∃ K : Nat, at' % (k : Int) = (K : Int) := ⟨(at' % (k : Int)).toNat, by rw [Int.toNat_of_nonneg (Int.emod_nonneg _ (by omega))]⟩
      have hK2 : K < k := by have := Int.emod_lt_of_pos at' (show (0 : Int) < (k : Int) by omega); omega
      obtain ⟨L, hL⟩ : ∃ L : Nat, lo % 4 = (L : Int) := ⟨(lo % 4).toNat, by omega⟩
      obtain ⟨H, hH⟩ : ∃ H : Nat, hi % 4 = (H : Int) := ⟨(hi % 4).toNat, by omega⟩
      have hL4 : L < 4 := by omega
      have hH4 : H < 4 := by omega
      have hkz : ((k : Int) = 0) = False := eq_false (by omega)
      have hkz' : (k = 0) = False := eq_false (by omega)
      have hk0 : (0 : Int) ≤ (k : Int) := by omega
      go_upto_region 9 with fail
      simp only [hK]
      have hK0 : (0 : Int) ≤ (K : Int) := by omega
      have hK16 : (K : Int) < 16 := by omega
      clear hK ha1 ha2
      go_upto_region 10 with fail
      obtain ⟨a, hab⟩ : ∃ x, (K : Int) - (L : Int) = x := ⟨_, rfl⟩
      obtain ⟨b, hbb⟩ : ∃ x, (K : Int) + (H : Int) = x := ⟨_, rfl⟩
      simp only [hab, hbb]
      obtain ⟨ve, hve⟩ : ∃ x, v + more = x := ⟨_, rfl⟩
      have hve1 : -32768 ≤ ve ∧ ve ≤ 40000 := by omega
      have WI : Hid (∀ i, inI (writeC (mkC zs us) a b v ve i) (if i = K then v else zs.getD i 0)) := Lib.hid (fun i => by rw [← hab, ← hbb, ← hve]; exact write_in zs us K L H v more hm1 i)
      have RI : Hid (inI (readC (mkC zs us) a b k) (zs.getD K 0)) := Lib.hid (readC_has _ _ _ hK2 (by omega) (mkC_in zs us K))
      clear hab hbb hL hH hL4 hH4 hl1 hl2 hh1 hh2
      refine at_world (fun W => Hid (Below w.heap.size w W ∧ OI W w.heap.size A' k c (mkC zs us) ∧ Bx wo.heap.size W a b)) (Lib.hid ⟨HI.out.2.alloc HI.out.2.size _, HI.out.1.below ((Below.refl _ _).alloc (Nat.le_refl _) _), Bx.new _ _ _ _⟩) ?_
      obtain ⟨b18, hb18⟩ : ∃ x, wo.heap.size = x := ⟨_, rfl⟩
      simp only [hb18]
      clear hb18 HI wo
      intro W1 H1
      have k18 := H1.out.2.2.2.1
      go_upto_region 11 with (go_at_call 7; refine (write_c A' k c (mkC zs us) a b v ve _ (by omega) H1.out.2.1.cr).mono ?_; rintro e w2 ⟨A2, d2, rfl, ho, hb⟩)
      obtain ⟨sd, hsd⟩ : ∃ s, writeC (mkC zs us) a b v ve = s := ⟨_, rfl⟩
      rw [hsd] at ho WI
      refine at_world (fun W => Hid (Below w.heap.size w W ∧ OI W w.heap.size A' k c (mkC zs us) ∧ Bx b18 W a b ∧ OI W w.heap.size A2 k d2 sd)) (Lib.hid ⟨below_next H1.out.1 H1.out.1.size hb, H1.out.2.1.below hb, H1.out.2.2.below hb, ho.mono H1.out.1.size⟩) ?_
      clear ho hb k18 H1 w2 W1 hsd hve hve1
      intro W2 H2
      go_wp2_with fail
      go_loopw [20] (fun i wr => ∃ q : Nat, q ≤ k ∧ i = .int .i64 q ∧ Hid (Below w.heap.size w wr ∧ OI wr w.heap.size A' k c (mkC zs us) ∧ Bx b18 wr a b ∧ OI wr w.heap.size A2 k d2 sd)) (fun i _ => k - (intOf i).toNat)
      case atStart => exact ⟨0, by omega, rfl, H2⟩
      case round =>
        clear H2
        obtain ⟨q, hq, rfl, HI⟩ := hrel
        by_cases hlt : q < k
        · have hq0 : (0 : Int) ≤ (q : Int) := by omega
          have hq1 : (q : Int) < (k : Int) := by omega
          obtain ⟨ad, rfl, hal, hac⟩ := HZ.out.2.2.2 (by omega)
          have c0 := (HI.out.1.cell (p := ad.add q) (by rw [add_block]; exact hal)).trans (hac q hlt)
          have hwz : -32768 ≤ zs.getD q 0 ∧ zs.getD q 0 ≤ 32767 := C.wf_i16 (HZ.out.wf hlt)
          obtain ⟨g2, rfl, _, _, e0, e1, _⟩ := HI.out.2.2.2.at hlt
          have hin := WI.out q
          obtain ⟨z, hz⟩ : ∃ z, zs.getD q 0 = z := ⟨_, rfl⟩
          obtain ⟨⟨s1, s2⟩, hs⟩ : ∃ s, sd q = s := ⟨_, rfl⟩
          rw [hz] at c0 hwz hin
          rw [hs] at e0 e1 hin
          simp only at e0 e1
          obtain ⟨hz1, hz2⟩ := hwz
          clear hac hal hz hs
          by_cases he : q = K
          · rw [if_pos he] at hin
            obtain ⟨i1, i2⟩ := hin
            have g1 : decide (v < s1) = false := decide_eq_false (by simp only at i1; omega)
            have g2' : decide (s2 < v) = false := decide_eq_false (by simp only at i2; omega)
            have hvv : v = v := rfl
            clear i1 i2
            subst he
            have ge : ((q : Int) == (q : Int)) = true := by simp
            go_wp2_with fail
            all_goals exact ⟨⟨q + 1, by omega, by go_num, HI⟩, by simp [intOf]; omega⟩
          · rw [if_neg he] at hin
            obtain ⟨i1, i2⟩ := hin
            have g1 : decide (z < s1) = false := decide_eq_false (by simp only at i1; omega)
            have g2' : decide (s2 < z) = false := decide_eq_false (by simp only at i2; omega)
            have g : ((q : Int) = (K : Int)) = False := eq_false (by omega)
            have ge : ((q : Int) == (K : Int)) = false := by rw [beq_eq_false_iff_ne]; omega
            have gd : decide ((q : Int) = (K : Int)) = false := decide_eq_false (by omega)
            clear i1 i2
            go_wp2_with fail
            all_goals exact ⟨⟨q + 1, by omega, by go_num, HI⟩, by simp [intOf]; omega⟩
        · obtain rfl : q = k := by omega
          clear hlt hq
          have k18 := HI.out.2.2.1.2.1
          obtain ⟨⟨r1, r2⟩, hrp⟩ : ∃ p, readC (mkC zs us) a b q = p := ⟨_, rfl⟩
          have RD := fun W h => read_c A' q c (mkC zs us) a b W h
          simp only [hrp] at RD
          have hri := RI.out
          rw [hrp] at hri
          obtain ⟨i1, i2⟩ := hri
          clear hrp
          go_upto_region 22 with (go_at_call 9; refine (RD _ HI.out.2.1.cr).mono ?_; rintro e w3 ⟨rfl, hb3⟩)
          have hal3 := hb3.alloc hb3.size (.cells #[.int .i64 r1, .int .i64 r2] 26)
          have hbx := Bx.new w3 26 r1 r2
          refine at_world (fun W => Hid (Below w.heap.size w W ∧ OI W w.heap.size A' q c (mkC zs us) ∧ OI W w.heap.size A2 q d2 sd) ∧ W.drew.cell? ⟨w3.heap.size, 0, none⟩ = some (.int .i64 r1) ∧ W.drew.cell? ⟨w3.heap.size, 1, none⟩ = some (.int .i64 r2)) ⟨Lib.hid ⟨below_next HI.out.1 HI.out.1.size hal3, HI.out.2.1.below hal3, HI.out.2.2.2.below hal3⟩, by exact hbx.2.1 0, by exact hbx.2.1 1⟩ ?_
          obtain ⟨b22, hb22⟩ : ∃ x, w3.heap.size = x := ⟨_, rfl⟩
          simp only [hb22]
          clear hal3 hbx hb22 hb3 k18 HI w3 RD
          intro W4 ⟨HS, q1, q2⟩
          obtain ⟨ad, rfl, hal, hac⟩ := HZ.out.2.2.2 (by omega)
          have q0 : W4.drew.cell? (ad.add K) = some (.int .i16 (zs.getD K 0)) := (HS.out.1.drew.cell (p := ad.add K) (by rw [add_block]; exact hal)).trans (hac K hK2)
          have hwz : -32768 ≤ zs.getD K 0 ∧ zs.getD K 0 ≤ 32767 := C.wf_i16 (HZ.out.wf hK2)
          obtain ⟨z, hz⟩ : ∃ z, zs.getD K 0 = z := ⟨_, rfl⟩
          rw [hz] at q0 hwz i1 i2
          change r1 ≤ z at i1
          change z ≤ r2 at i2
          obtain ⟨hz1, hz2⟩ := hwz
          have hw1 : IntKind.i64.wrap z = z := by rw [IntKind.wrap_i64]; omega
          have gr1 : decide (r1 ≤ z) = true := decide_eq_true i1
          have gr2 : decide (z ≤ r2) = true := decide_eq_true i2
          clear hac hal hz
          replace HS := Lib.hid (snd_below HS.out (Below.refl _ _).drew)
          have hKq : (K : Int) < (q : Int) := by omega
          have LE1 : ∀ (A3 : Option Addr) (d3 : Nat) (W : World), CR W A' q (mkC zs us) → CR W A3 q (joinC (mkC zs us) sd q q) → Calls Try.prog 11 #[.slice A' q c, .slice A3 q d3] W fun e w' => e = .returned (.bool true) ∧ Below W.heap.size W w' := fun A3 d3 W h h' => by have := cellsLe_c A' A3 q q c d3 _ _ W h h'; rwa [leC_join_l] at this
          have LE2 : ∀ (A3 : Option Addr) (d3 : Nat) (W : World), CR W A2 q sd → CR W A3 q (joinC (mkC zs us) sd q q) → Calls Try.prog 11 #[.slice A2 q d2, .slice A3 q d3] W fun e w' => e = .returned (.bool true) ∧ Below W.heap.size W w' := fun A3 d3 W h h' => by have := cellsLe_c A2 A3 q q d2 d3 _ _ W h h'; rwa [leC_join_r] at this
          go_region_held3 (fun w' => w'.cell? (ad.add K) = some (Value.int .i16 z) ∧ w'.cell? ⟨b22, 0, none⟩ = some (Value.int .i64 r1) ∧ w'.cell? ⟨b22, 1, none⟩ = some (Value.int .i64 r2)) (exact ⟨q0, q1, q2⟩) ((first | (go_at_call 12; refine (cjoin_c A' A2 q q c d2 (mkC zs us) sd _ (by omega) HS.out.2.1.cr HS.out.2.2.cr).mono ?_; rintro e w' ⟨A3, d3, rfl, ho, hb⟩; replace q0 := cell_later hb q0; replace q1 := cell_later hb q1; replace q2 := cell_later hb q2; replace HS := Lib.hid (snd_below HS.out hb); have HP := Lib.hid ho.cr; clear ho hb) | (go_at_call 11; refine (LE1 _ _ _ HS.out.2.1.cr HP.out).mono ?_; rintro e w' ⟨rfl, hb⟩; replace q0 := cell_later hb q0; replace q1 := cell_later hb q1; replace q2 := cell_later hb q2; replace HS := Lib.hid (snd_below HS.out hb); clear hb LE1 HP) | (go_at_call 11; refine (LE2 _ _ _ HS.out.2.2.cr HP.out).mono ?_; rintro e w' ⟨rfl, hb⟩; replace q0 := cell_later hb q0; replace q1 := cell_later hb q1; replace q2 := cell_later hb q2; replace HS := Lib.hid (snd_below HS.out hb); clear hb LE2 HP) | (go_at_call 10; refine (hAW _).mono ?_; rintro e w' ⟨rfl, hb⟩; replace q0 := cell_later hb q0; replace q1 := cell_later hb q1; replace q2 := cell_later hb q2; replace HS := Lib.hid (snd_below HS.out hb); clear hb)))
          go_wp2_with fail
          go_ret
          exact ⟨rfl, HS.out.1⟩
end Go.Proofs.Ytkeofaklkbjnkaa.C
