/- CellsAll: walk. -/
import Derived.Test.YtkeofaklkbjnkaaCellAw
import Derived.Test.YtkeofaklkbjnkaaCellBo
import Derived.Test.YtkeofaklkbjnkaaCellLe
namespace Go.Proofs.Ytkeofaklkbjnkaa.C
open Go.RowKit
set_option linter.unusedSimpArgs false
set_option linter.unusedVariables false
attribute [local go_sem] fieldItv0 fieldItv1
theorem sameI_t (A B : Option Addr) (n c1 c2 : Nat) (r : Nat → Int × Int) (w : World) (h1 : CR w A n r) (h2 : CR w B n r) :
    Calls Try.prog 15 #[.slice A n c1, .slice B n c2] w fun e w' => e = .returned (.bool true) ∧ Below w.heap.size w w' := by
  have e : sameC r r n n = true := decide_eq_true ⟨rfl, fun _ _ => rfl⟩
  have := sameI_c A B n n c1 c2 r r w h1 h2
  rwa [e] at this
/-- What lies there all the way. -/
def AllIn (w : World) (a b x y : Int) (A B : Option Addr) (n m : Nat) (r s : Nat → Int × Int) (W : World) : Prop := Below w.heap.size w W ∧ Bx w.heap.size W a b ∧ Bx (w.heap.size + 1) W x y ∧ CR W A n r ∧ CR W B m s
theorem AllIn.below {w W W' : World} {a b x y : Int} {A B : Option Addr} {n m : Nat} {r s : Nat → Int × Int} (h : AllIn w a b x y A B n m r s W) (hb : Below W.heap.size W W') : AllIn w a b x y A B n m r s W' :=
  ⟨below_next h.1 h.1.size hb, h.2.1.below hb, h.2.2.1.below hb, h.2.2.2.1.below hb, h.2.2.2.2.below hb⟩
theorem below3 {w W W' : World} {A B A' : Option Addr} {n m n' : Nat} {r s r' : Nat → Int × Int} (h : Below w.heap.size w W ∧ CR W A n r ∧ CR W B m s ∧ CR W A' n' r') (hb : Below W.heap.size W W') : Below w.heap.size w W' ∧ CR W' A n r ∧ CR W' B m s ∧ CR W' A' n' r' :=
  ⟨below_next h.1 h.1.size hb, h.2.1.below hb, h.2.2.1.below hb, h.2.2.2.below hb⟩
set_option maxRecDepth 100000 in
set_option maxHeartbeats 12800000 in
theorem cellsAll_c (A B : Option Addr) (n m c1 c2 : Nat) (r s : Nat → Int × Int) (a b x y t size : Int) (w : World) (hr : CR w A n r) (hs : CR w B m s) :
    Calls Try.prog 5 #[.slice A n c1, .slice B m c2, .agg #[.int .i64 a, .int .i64 b], .agg #[.int .i64 x, .int .i64 y], .int .i64 t, .int .i64 size] w fun e w' => e = .returned (.bool true) ∧ Below w.heap.size w w' := by
  have HR := Lib.hid hr
  have HZ := Lib.hid hs
  clear hr hs
  obtain ⟨f1, hf1⟩ : ∃ f, fineC r n = f := ⟨_, rfl⟩
  obtain ⟨f2, hf2⟩ : ∃ f, fineC s m = f := ⟨_, rfl⟩
  obtain ⟨f3, hf3⟩ : ∃ f, fineI x y = f := ⟨_, rfl⟩
  have hn : f1 = true → n ≤ 30 := fun h => by rw [h] at hf1; exact (of_decide_eq_true hf1).1
  have hm : f2 = true → m ≤ 30 := fun h => by rw [h] at hf2; exact (of_decide_eq_true hf2).1
  have F1 := fun W (h : CR W A n r) => fine17_c A n c1 r W h
  have F2 := fun W (h : CR W B m s) => fine17_c B m c2 s W h
  have F3 := fun W => fine_c x y W
  simp only [hf1] at F1
  simp only [hf2] at F2
  simp only [hf3] at F3
  clear hf1 hf2 hf3
  go_enter Try.func5, Try.ntmps5
  go_upto_region 1 with fail
  refine at_world (fun W => Hid (AllIn w a b x y A B n m r s W)) ?_ ?_
  · have h2 := Bx.new (w.alloc (.cells #[.int .i64 a, .int .i64 b] 26)) 26 x y
    have e2 : (w.alloc (.cells #[.int .i64 a, .int .i64 b] 26)).heap.size = w.heap.size + 1 := by simp
    rw [e2] at h2
    have hb2 : Below w.heap.size w ((w.alloc (.cells #[.int .i64 a, .int .i64 b] 26)).alloc (.cells #[.int .i64 x, .int .i64 y] 26)) := (by repeat' (first | exact Below.refl _ _ | (refine Below.alloc ?_ ?_ _) | (refine Below.setCell ?_ ?_ _) | (refine Below.drew ?_) | (refine below_next ?_ ?_ (by assumption)) | omega | (simp; done) | (simp; omega)))
    exact Lib.hid ⟨hb2, (Bx.new w _ a b).below ((Below.refl _ _).alloc (Nat.le_refl _) _), h2, HR.out.below hb2, HZ.out.below hb2⟩
  clear HR HZ
  intro W HS
  cases f1
  · go_wp2_with (first | (go_at_call 13; refine (F1 _ HS.out.2.2.2.1).mono ?_; rintro e w1 ⟨rfl, hb⟩; replace HS := Lib.hid (HS.out.below hb); clear hb F1) | (go_at_call 10; refine (awake17_c _).mono ?_; rintro e w6 ⟨rfl, hb6⟩; have H6 := Lib.hid hb6; clear hb6))
    go_ret
    exact ⟨rfl, below_next HS.out.1 HS.out.1.size H6.out⟩
  have hn' := hn rfl
  clear hn
  cases f2
  · go_wp2_with (first | (go_at_call 13; refine (F1 _ HS.out.2.2.2.1).mono ?_; rintro e w1 ⟨rfl, hb⟩; replace HS := Lib.hid (HS.out.below hb); clear hb F1) | (go_at_call 13; refine (F2 _ HS.out.2.2.2.2).mono ?_; rintro e w1 ⟨rfl, hb⟩; replace HS := Lib.hid (HS.out.below hb); clear hb F2) | (go_at_call 10; refine (awake17_c _).mono ?_; rintro e w6 ⟨rfl, hb6⟩; have H6 := Lib.hid hb6; clear hb6))
    go_ret
    exact ⟨rfl, below_next HS.out.1 HS.out.1.size H6.out⟩
  have hm' := hm rfl
  clear hm
  cases f3
  · go_wp2_with (first | (go_at_call 13; refine (F1 _ HS.out.2.2.2.1).mono ?_; rintro e w1 ⟨rfl, hb⟩; replace HS := Lib.hid (HS.out.below hb); clear hb F1) | (go_at_call 13; refine (F2 _ HS.out.2.2.2.2).mono ?_; rintro e w1 ⟨rfl, hb⟩; replace HS := Lib.hid (HS.out.below hb); clear hb F2; have k1 := HS.out.2.2.1.2.1) | (go_at_call 14; refine (F3 _).mono ?_; rintro e w1 ⟨rfl, hb⟩; replace HS := Lib.hid (HS.out.below hb); clear hb F3 k1) | (go_at_call 10; refine (awake17_c _).mono ?_; rintro e w6 ⟨rfl, hb6⟩; have H6 := Lib.hid hb6; clear hb6))
    go_ret
    exact ⟨rfl, below_next HS.out.1 HS.out.1.size H6.out⟩
  go_upto_region 3 with (first | (go_at_call 13; refine (F1 _ HS.out.2.2.2.1).mono ?_; rintro e w1 ⟨rfl, hb⟩; replace HS := Lib.hid (HS.out.below hb); clear hb F1) | (go_at_call 13; refine (F2 _ HS.out.2.2.2.2).mono ?_; rintro e w1 ⟨rfl, hb⟩; replace HS := Lib.hid (HS.out.below hb); clear hb F2; have k1 := HS.out.2.2.1.2.1) | (go_at_call 14; refine (F3 _).mono ?_; rintro e w1 ⟨rfl, hb⟩; replace HS := Lib.hid (HS.out.below hb); clear hb F3 k1))
  refine at_world (fun W' => Hid (AllIn w a b x y A B n m r s W')) HS ?_
  clear HS
  intro W3 HS
  have hcr : CR (W3.alloc (.cells #[] 26)) A n r := HS.out.2.2.2.1.below ((Below.refl _ _).alloc (Nat.le_refl _) _)
  go_upto_region 4 with (at_builtin; refine wpList_append_itv rfl _ _ rfl W3.heap.size (.slice (some ⟨W3.heap.size, 0, none⟩) 0 0) 0 [] (by rfl) (ownI_empty W3 26 2) A n c1 r (by rfl) hcr (by omega) (by omega) (by simp) ?_; intro v' w1 hown hg hat)
  have hb : Below W3.heap.size W3 w1 := ((Below.refl _ _).alloc (Nat.le_refl _) _).grown hg (by simp) (by rintro k hk; simp [Value.ownBlock] at hk; omega)
  simp only [Nat.zero_add, List.nil_append] at hown
  obtain ⟨A', c, rfl, ho⟩ := OI.of hown
  have H4 := HS.out.below hb
  refine at_world (fun W => Hid (Below w.heap.size w W ∧ CR W A n r ∧ CR W B m s ∧ CR W A' n r) ∧ W.cell? ⟨w.heap.size, 0, none⟩ = some (.int .i64 a) ∧ W.cell? ⟨w.heap.size, 1, none⟩ = some (.int .i64 b) ∧ W.cell? ⟨w.heap.size + 1, 0, none⟩ = some (.int .i64 x) ∧ W.cell? ⟨w.heap.size + 1, 1, none⟩ = some (.int .i64 y)) ⟨Lib.hid ⟨H4.1, H4.2.2.2.1, H4.2.2.2.2, ho.cr⟩, by simpa using H4.2.1.2.1 0, by simpa using H4.2.1.2.1 1, by simpa using H4.2.2.1.2.1 0, by simpa using H4.2.2.1.2.1 1⟩ ?_
  obtain ⟨b9, hb9⟩ : ∃ b, W3.heap.size = b := ⟨_, rfl⟩
  simp only [hb9]
  clear H4 ho hb hown hg hat hcr hb9 HS w1 W3
  intro W4 ⟨HS, q0, q1, q2, q3⟩
  replace HS := Lib.hid (below3 HS.out (Below.refl _ _).drew)
  replace q0 : W4.drew.cell? ⟨w.heap.size, 0, none⟩ = some (.int .i64 a) := q0
  replace q1 : W4.drew.cell? ⟨w.heap.size, 1, none⟩ = some (.int .i64 b) := q1
  replace q2 : W4.drew.cell? ⟨w.heap.size + 1, 0, none⟩ = some (.int .i64 x) := q2
  replace q3 : W4.drew.cell? ⟨w.heap.size + 1, 1, none⟩ = some (.int .i64 y) := q3
  obtain ⟨zr, hzr⟩ : ∃ z, readC r a b n = z := ⟨_, rfl⟩
  have RD1 := fun W h => read_c A n c1 r a b W h
  have RD2 := fun W h => rRead_c A n c1 r a b W h
  obtain ⟨bl, hbl⟩ : ∃ z, leC r s n m = z := ⟨_, rfl⟩
  have LE1 := fun W h h' => cellsLe_c A B n m c1 c2 r s W h h'
  have LE2 := fun W h h' => rLe_c A B n m c1 c2 r s W h h'
  simp only [hzr] at RD1 RD2
  simp only [hbl] at LE1 LE2
  clear hzr hbl
  (try simp only [List.append_eq, List.cons_append, List.nil_append])
  go_region_held3 (fun w' => w'.cell? ⟨w.heap.size, 0, none⟩ = some (.int .i64 a) ∧ w'.cell? ⟨w.heap.size, 1, none⟩ = some (.int .i64 b) ∧ w'.cell? ⟨w.heap.size + 1, 0, none⟩ = some (.int .i64 x) ∧ w'.cell? ⟨w.heap.size + 1, 1, none⟩ = some (.int .i64 y)) (exact ⟨q0, q1, q2, q3⟩) ((first | (go_at_call 6; refine (top_c t size _).mono ?_; rintro e w' ⟨A1, d1, rfl, ho, hb⟩; replace q0 := cell_later hb q0; replace q1 := cell_later hb q1; replace q2 := cell_later hb q2; replace q3 := cell_later hb q3; have HP := Lib.hid ho.cr; replace HS := Lib.hid (below3 HS.out hb); clear ho hb) | (go_at_call 16; refine (rTop_c t size _).mono ?_; rintro e w' ⟨A2, d2, rfl, ho, hb⟩; replace q0 := cell_later hb q0; replace q1 := cell_later hb q1; replace q2 := cell_later hb q2; replace q3 := cell_later hb q3; have HQ := Lib.hid ho.cr; replace HP := Lib.hid (HP.out.below hb); replace HS := Lib.hid (below3 HS.out hb); clear ho hb) | (go_at_call 15; refine (sameI_t _ _ _ _ _ _ _ HP.out HQ.out).mono ?_; rintro e w' ⟨rfl, hb⟩; replace q0 := cell_later hb q0; replace q1 := cell_later hb q1; replace q2 := cell_later hb q2; replace q3 := cell_later hb q3; replace HS := Lib.hid (below3 HS.out hb); clear hb HP HQ) | (go_at_call 15; refine (sameI_t _ _ _ _ _ _ _ HS.out.2.1 HS.out.2.2.2).mono ?_; rintro e w' ⟨rfl, hb⟩; replace q0 := cell_later hb q0; replace q1 := cell_later hb q1; replace q2 := cell_later hb q2; replace q3 := cell_later hb q3; replace HS := Lib.hid (below3 HS.out hb); clear hb) | (go_at_call 9; refine (RD1 _ HS.out.2.1).mono ?_; rintro e w' ⟨rfl, hb⟩; replace q0 := cell_later hb q0; replace q1 := cell_later hb q1; replace q2 := cell_later hb q2; replace q3 := cell_later hb q3; replace HS := Lib.hid (below3 HS.out hb); clear hb) | (go_at_call 17; refine (RD2 _ HS.out.2.1).mono ?_; rintro e w' ⟨rfl, hb⟩; replace q0 := cell_later hb q0; replace q1 := cell_later hb q1; replace q2 := cell_later hb q2; replace q3 := cell_later hb q3; replace HS := Lib.hid (below3 HS.out hb); clear hb) | (go_at_call 7; refine (write_c A n c1 r a b x y _ (by omega) HS.out.2.1).mono ?_; rintro e w' ⟨A3, d3, rfl, ho, hb⟩; replace q0 := cell_later hb q0; replace q1 := cell_later hb q1; replace q2 := cell_later hb q2; replace q3 := cell_later hb q3; have HP := Lib.hid ho.cr; replace HS := Lib.hid (below3 HS.out hb); clear ho hb) | (go_at_call 18; refine (rWrite_c A n c1 r a b x y _ (by omega) HS.out.2.1).mono ?_; rintro e w' ⟨A4, d4, rfl, ho, hb⟩; replace q0 := cell_later hb q0; replace q1 := cell_later hb q1; replace q2 := cell_later hb q2; replace q3 := cell_later hb q3; have HQ := Lib.hid ho.cr; replace HP := Lib.hid (HP.out.below hb); replace HS := Lib.hid (below3 HS.out hb); clear ho hb) | (go_at_call 11; refine (LE1 _ HS.out.2.1 HS.out.2.2.1).mono ?_; rintro e w' ⟨rfl, hb⟩; replace q0 := cell_later hb q0; replace q1 := cell_later hb q1; replace q2 := cell_later hb q2; replace q3 := cell_later hb q3; replace HS := Lib.hid (below3 HS.out hb); clear hb) | (go_at_call 19; refine (LE2 _ HS.out.2.1 HS.out.2.2.1).mono ?_; rintro e w' ⟨rfl, hb⟩; replace q0 := cell_later hb q0; replace q1 := cell_later hb q1; replace q2 := cell_later hb q2; replace q3 := cell_later hb q3; replace HS := Lib.hid (below3 HS.out hb); clear hb) | (go_at_call 12; refine (cjoin_c A B n m c1 c2 r s _ (by omega) HS.out.2.1 HS.out.2.2.1).mono ?_; rintro e w' ⟨A5, d5, rfl, ho, hb⟩; replace q0 := cell_later hb q0; replace q1 := cell_later hb q1; replace q2 := cell_later hb q2; replace q3 := cell_later hb q3; have HP := Lib.hid ho.cr; replace HS := Lib.hid (below3 HS.out hb); clear ho hb) | (go_at_call 20; refine (rJoin_c A B n m c1 c2 r s _ (by omega) HS.out.2.1 HS.out.2.2.1).mono ?_; rintro e w' ⟨A6, d6, rfl, ho, hb⟩; replace q0 := cell_later hb q0; replace q1 := cell_later hb q1; replace q2 := cell_later hb q2; replace q3 := cell_later hb q3; have HQ := Lib.hid ho.cr; replace HP := Lib.hid (HP.out.below hb); replace HS := Lib.hid (below3 HS.out hb); clear ho hb) | (go_at_call 21; refine (cwiden_c A B n m c1 c2 r s t _ (by omega) HS.out.2.1 HS.out.2.2.1).mono ?_; rintro e w' ⟨A7, d7, rfl, ho, hb⟩; replace q0 := cell_later hb q0; replace q1 := cell_later hb q1; replace q2 := cell_later hb q2; replace q3 := cell_later hb q3; have HP := Lib.hid ho.cr; replace HS := Lib.hid (below3 HS.out hb); clear ho hb) | (go_at_call 22; refine (rWiden_c A B n m c1 c2 r s t _ (by omega) HS.out.2.1 HS.out.2.2.1).mono ?_; rintro e w' ⟨A8, d8, rfl, ho, hb⟩; replace q0 := cell_later hb q0; replace q1 := cell_later hb q1; replace q2 := cell_later hb q2; replace q3 := cell_later hb q3; have HQ := Lib.hid ho.cr; replace HP := Lib.hid (HP.out.below hb); replace HS := Lib.hid (below3 HS.out hb); clear ho hb) | (go_at_call 10; refine (awake17_c _).mono ?_; rintro e w' ⟨rfl, hb⟩; replace q0 := cell_later hb q0; replace q1 := cell_later hb q1; replace q2 := cell_later hb q2; replace q3 := cell_later hb q3; replace HS := Lib.hid (below3 HS.out hb); clear hb)))
  go_wp2_with fail
  go_ret
  exact ⟨rfl, HS.out.1⟩
end Go.Proofs.Ytkeofaklkbjnkaa.C
