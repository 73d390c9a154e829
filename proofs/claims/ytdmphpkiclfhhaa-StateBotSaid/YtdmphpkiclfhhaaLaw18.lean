/- StateBot: walk. -/
import Derived.Test.YtdmphpkiclfhhaaSt8
namespace Go.Proofs.Ytdmphpkiclfhhaa.C
open Go.RowKit
set_option linter.unusedSimpArgs false
set_option linter.unusedVariables false
attribute [local go_sem] fieldItv0 fieldItv1
theorem fieldSt0 (b : Bool) (A B : Option Addr) (n m c1 c2 : Nat) (w : World) : (Instr.field 34 (.agg #[.bool b, .slice A n c1, .slice B m c2]) 0).run Try.prog w = .ok (.bool b) w := by kernel_rfl
attribute [local go_sem] fieldSt0
/-- A state that lies in a box. -/
def SB (b : Nat) (W : World) (V : List Value) : Prop := b < W.heap.size ∧ ∀ o, W.cell? ⟨b, o, none⟩ = V[o]?
theorem SB.below {b : Nat} {W W' : World} {V : List Value} (h : SB b W V) (hb : Below W.heap.size W W') : SB b W' V := ⟨Nat.lt_of_lt_of_le h.1 hb.size, fun o => (hb.cell (p := ⟨b, o, none⟩) h.1).trans (h.2 o)⟩
theorem SB.new {W : World} {cs : Array Value} {t : TypeId} : SB W.heap.size (W.alloc (.cells cs t)) cs.toList := ⟨by simp, fun o => by rw [cell_of_row _ _ _ _ _ _ (heap_alloc_new W _)]; simp⟩
def AwOk (w : World) (b b2 z4 zb zc : Nat) (B4 B : Option Addr) (M : Z.M) (W : World) : Prop :=
  Below w.heap.size w W ∧ SB b W [.bool false, .slice (some ⟨zb, 0, none⟩) 2 zc, .slice B 1 1] ∧ SB b2 W [.bool false, .slice (some ⟨z4, 0, none⟩) 2 2, .slice B4 1 1] ∧ RM W ⟨zb, 0, none⟩ 2 M ∧ CC W B 1 (topLn fun _ => 4) (topRr fun _ => 3) ∧ RM W ⟨z4, 0, none⟩ 2 M ∧ CC W B4 1 (topLn fun _ => 4) (topRr fun _ => 3)
theorem AwOk.below {w : World} {b b2 z4 zb zc : Nat} {B4 B : Option Addr} {M : Z.M} {W W' : World} (h : AwOk w b b2 z4 zb zc B4 B M W) (hb : Below W.heap.size W W') : AwOk w b b2 z4 zb zc B4 B M W' :=
  ⟨below_next h.1 h.1.size hb, h.2.1.below hb, h.2.2.1.below hb, h.2.2.2.1.below hb, h.2.2.2.2.1.below hb, h.2.2.2.2.2.1.below hb, h.2.2.2.2.2.2.below hb⟩
theorem AwOk.new {w : World} {b z4 zb zc : Nat} {R4 C4 : Nat → Nat} {B4 B : Option Addr} {M : Z.M} {W pre w4 : World} {t : TypeId}
    (HX : RM W ⟨zb, 0, none⟩ 2 M ∧ CC W B 1 (topLn fun _ => 4) (topRr fun _ => 3) ∧ Below w.heap.size w W) (hlt : b < W.heap.size) (k0 : ∀ o, W.cell? ⟨b, o, none⟩ = [Value.bool false, .slice (some ⟨zb, 0, none⟩) 2 zc, .slice B 1 1][o]?)
    (h4 : Below W.heap.size W w4) (HO : OM w4 pre.heap.size z4 R4 C4 2 M ∧ CCk pre w4 B4 1 (topLn fun _ => 4) (topRr fun _ => 3)) :
    AwOk w b w4.heap.size z4 zb zc B4 B M (w4.alloc (.cells #[.bool false, .slice (some ⟨z4, 0, none⟩) 2 2, .slice B4 1 1] t)) := by
  have ha := (Below.refl w4.heap.size w4).alloc (Nat.le_refl _) (.cells #[.bool false, .slice (some ⟨z4, 0, none⟩) 2 2, .slice B4 1 1] t)
  have hWa := below_next h4 h4.size ha
  exact ⟨below_next HX.2.2 HX.2.2.size hWa, SB.below (W := W) ⟨hlt, k0⟩ hWa, SB.new, HX.1.below hWa, HX.2.1.below hWa, (HO.1.below ha).rm, HO.2 _ ha.size (fun q _ hq => ha.block q hq)⟩
theorem AwOk.put {w : World} {b b2 z4 zb zc : Nat} {R4 C4 : Nat → Nat} {B4 B : Option Addr} {M : Z.M} {W pre w4 : World}
    (HX : RM W ⟨zb, 0, none⟩ 2 M ∧ CC W B 1 (topLn fun _ => 4) (topRr fun _ => 3) ∧ Below w.heap.size w W) (hlt : b < W.heap.size) (k0 : ∀ o, W.cell? ⟨b, o, none⟩ = [Value.bool false, .slice (some ⟨zb, 0, none⟩) 2 zc, .slice B 1 1][o]?)
    (h4 : Below W.heap.size W w4) (hp : pre.heap.size ≤ w4.heap.size) (HO : OM w4 pre.heap.size z4 R4 C4 2 M ∧ CCk pre w4 B4 1 (topLn fun _ => 4) (topRr fun _ => 3)) (h1 : W.heap.size ≤ b2) (h2 : b2 < pre.heap.size) (hc : ∀ o, w4.cell? ⟨b2, o, none⟩ = [Value.bool false, .slice none 0 0, .slice none 0 0][o]?) :
    AwOk w b b2 z4 zb zc B4 B M (((w4.setCell ⟨b2, 0, none⟩ (.bool false)).setCell ⟨b2, 1, none⟩ (.slice (some ⟨z4, 0, none⟩) 2 2)).setCell ⟨b2, 2, none⟩ (.slice B4 1 1)) := by
  have hk : ∀ q, q ≠ b2 → (((w4.setCell ⟨b2, 0, none⟩ (.bool false)).setCell ⟨b2, 1, none⟩ (.slice (some ⟨z4, 0, none⟩) 2 2)).setCell ⟨b2, 2, none⟩ (.slice B4 1 1)).heap[q]? = w4.heap[q]? := fun q hq => by
    rw [Below.heap_setCell _ ⟨b2, 2, none⟩ _ q hq, Below.heap_setCell _ ⟨b2, 1, none⟩ _ q hq, Below.heap_setCell _ ⟨b2, 0, none⟩ _ q hq]
  have hWa := (((h4.setCell (p := ⟨b2, 0, none⟩) h1 (.bool false)).setCell (p := ⟨b2, 1, none⟩) h1 (.slice (some ⟨z4, 0, none⟩) 2 2)).setCell (p := ⟨b2, 2, none⟩) h1 (.slice B4 1 1))
  refine ⟨below_next HX.2.2 HX.2.2.size hWa, SB.below (W := W) ⟨hlt, k0⟩ hWa, ⟨by simp; omega, fun o => ?_⟩, HX.1.below hWa, HX.2.1.below hWa, (HO.1.keep (by simp) (hk _ (by have := HO.1.hB; omega)) (fun i hi => hk _ (by have := HO.1.hR i hi; omega))).rm, HO.2 _ (by simp) (fun q hq _ => hk q (by omega))⟩
  have c0 := hc 0
  have c1 := hc 1
  have c2 := hc 2
  simp at c0 c1 c2
  match o with
  | 0 => rw [World.cell?_setCell_other _ _ _ _ (by simp), World.cell?_setCell_other _ _ _ _ (by simp), World.cell?_setCell_same _ _ _ c0]; rfl
  | 1 => rw [World.cell?_setCell_other _ _ _ _ (by simp), World.cell?_setCell_same _ _ _ ((World.cell?_setCell_other _ _ _ _ (by simp)).trans c1)]; rfl
  | 2 => rw [World.cell?_setCell_same _ _ _ ((World.cell?_setCell_other _ _ _ _ (by simp)).trans ((World.cell?_setCell_other _ _ _ _ (by simp)).trans c2))]; rfl
  | o + 3 => rw [World.cell?_setCell_other _ _ _ _ (by simp), World.cell?_setCell_other _ _ _ _ (by simp), World.cell?_setCell_other _ _ _ _ (by simp), hc]; rfl
theorem sameCC_self (ln : Nat → Nat) (rr : Nat → Nat → Int × Int) (m : Nat) : sameCC ln ln rr rr m = true := decide_eq_true (fun i _ => decide_eq_true ⟨rfl, fun _ _ => rfl⟩)
theorem at_normal {Q : Exit → Act → World → Prop} {e : Exit} {a : Act} {w : World} (F : World → Prop) (h : F w) (k : ∀ W, F W → Q e a W) : Q e a w := k w h
theorem have2 {p q : Prop} (h : p) (k : p → q) : q := k h
set_option maxRecDepth 100000 in
set_option maxHeartbeats 6400000 in
theorem awake18_c (w : World) : Calls Try.prog 5 #[] w fun e w' => e = .returned (.bool true) ∧ Below w.heap.size w w' := by
  go_enter Try.func5, Try.ntmps5
  go_upto_region 2 with (first | (go_at_call 6; refine (layout_c 1 (by omega) w).mono ?_; rintro e w1 ⟨A, c, g, nm, rfl, ha, hb, hbl⟩; have H1 := Lib.hid (And.intro ha (And.intro hb hbl)); clear ha hb hbl) | (go_at_call 16; refine (stTop_c A (some ⟨g, 0, none⟩) 1 1 c 1 nm _ _ _ _ _ _ _ w1 (by omega) (by omega) H1.out.1 H1.out.2.1 (ne_I16 _ _)).mono ?_; rintro e w2 ⟨zb, R, C, zc, B, rfl, hom, hcc, hb2⟩; have H2 := Lib.hid (And.intro hom.rm (And.intro hcc (below_next H1.out.2.2 H1.out.2.2.size hb2))); clear hom hcc hb2))
  generalize hM : Z.closeM (topM (fun _ => 3) 1) (1 + 1) = M at *
  have hal := fun o => (Below.refl w2.heap.size w2).alloc (Nat.le_refl _) o
  refine at_world (fun W => Hid (RM W ⟨zb, 0, none⟩ (1 + 1) M ∧ CC W B 1 (topLn fun _ => 4) (topRr fun _ => 3) ∧ Below w.heap.size w W) ∧ SB w2.heap.size W [.bool false, .slice (some ⟨zb, 0, none⟩) (1 + 1) zc, .slice B 1 1]) ⟨Lib.hid ⟨H2.out.1.below (hal _), H2.out.2.1.below (hal _), below_next H2.out.2.2 H2.out.2.2.size (hal _)⟩, SB.new⟩ ?_
  obtain ⟨b, hb⟩ : ∃ b, w2.heap.size = b := ⟨_, rfl⟩
  simp only [hb]
  clear hal hM hb H1 H2
  intro W ⟨HX, hsb⟩
  have hlt := hsb.1
  have k0 : ∀ o, W.drew.cell? ⟨b, o, none⟩ = [Value.bool false, .slice (some ⟨zb, 0, none⟩) (1 + 1) zc, .slice B 1 1][o]? := hsb.2
  clear hsb
  go_region_held3 (fun w' => ∀ o, w'.cell? ⟨b, o, none⟩ = [Value.bool false, .slice (some ⟨zb, 0, none⟩) (1 + 1) zc, .slice B 1 1][o]?) (first | exact k0 | exact (fun o => (Below.cell (B := W.heap.size) (w := W) (by repeat' (first | exact Below.refl _ _ | (refine Below.alloc ?_ ?_ _) | (refine Below.setCell ?_ ?_ _) | (refine Below.drew ?_) | (refine below_next ?_ ?_ (by assumption)) | omega | (simp; done) | (simp; omega))) (p := ⟨b, o, none⟩) hlt).trans (k0 o))) ((first | (go_at_call 15; refine (bot_c _).mono ?_; rintro e w3 ⟨rfl, hb3⟩; have hbz3 := hb3.size; (try simp at hbz3); have hB3 : Below W.heap.size W w3 := (by repeat' (first | exact Below.refl _ _ | (refine Below.alloc ?_ ?_ _) | (refine Below.setCell ?_ ?_ _) | (refine Below.drew ?_) | (refine below_next ?_ ?_ (by assumption)) | omega | (simp; done) | (simp; omega))); (try (refine have2 (p := ∀ o, w3.frozen? ⟨W.heap.size, o, none⟩ = false) ?_ ?_; (· (intro o; refine (hb3.frozen (p := ⟨W.heap.size, o, none⟩) ?_).trans ?_; (· (first | (simp; done) | (simp; omega))); (· (first | (simp [go_sem]; done) | (simp [go_sem, *]; done))))); intro)); (try (refine have2 (p := ∀ o, w3.cell? ⟨W.heap.size, o, none⟩ = [Value.bool false, .slice none 0 0, .slice none 0 0][o]?) ?_ ?_; (· (intro o; refine (hb3.cell (p := ⟨W.heap.size, o, none⟩) ?_).trans ?_; (· (first | (simp; done) | (simp; omega))); (· (first | (simp [go_sem]; done) | (simp [go_sem, *]; done))))); intro))) | (go_at_call 22; refine (join_bs ⟨zb, 0, none⟩ B (1 + 1) zc 1 1 M (topLn fun _ => 4) (topRr fun _ => 3) _ (by omega) (by omega) (by omega) (HX.out.1.below (by repeat' (first | exact Below.refl _ _ | (refine Below.alloc ?_ ?_ _) | (refine Below.setCell ?_ ?_ _) | (refine Below.drew ?_) | (refine below_next ?_ ?_ (by assumption)) | omega | (simp; done) | (simp; omega)))) (HX.out.2.1.below (by repeat' (first | exact Below.refl _ _ | (refine Below.alloc ?_ ?_ _) | (refine Below.setCell ?_ ?_ _) | (refine Below.drew ?_) | (refine below_next ?_ ?_ (by assumption)) | omega | (simp; done) | (simp; omega))))).mono ?_; rintro e w4 ⟨z4, R4, C4, B4, rfl, o1, o2, o3⟩; have HO := Lib.hid (And.intro o1 o2); clear o1 o2; have hbz4 := o3.size; (try simp at hbz4); have hB4 : Below W.heap.size W w4 := (by repeat' (first | exact Below.refl _ _ | (refine Below.alloc ?_ ?_ _) | (refine Below.setCell ?_ ?_ _) | (refine Below.drew ?_) | (refine below_next ?_ ?_ (by assumption)) | omega | (simp; done) | (simp; omega))); (try (refine have2 (p := ∀ o, w4.frozen? ⟨W.heap.size, o, none⟩ = false) ?_ ?_; (· (intro o; refine (o3.frozen (p := ⟨W.heap.size, o, none⟩) ?_).trans ?_; (· (first | (simp; done) | (simp; omega))); (· (first | (simp [go_sem]; done) | (simp [go_sem, *]; done))))); intro)); (try (refine have2 (p := ∀ o, w4.cell? ⟨W.heap.size, o, none⟩ = [Value.bool false, .slice none 0 0, .slice none 0 0][o]?) ?_ ?_; (· (intro o; refine (o3.cell (p := ⟨W.heap.size, o, none⟩) ?_).trans ?_; (· (first | (simp; done) | (simp; omega))); (· (first | (simp [go_sem]; done) | (simp [go_sem, *]; done))))); intro)); (try (refine have2 (p := ∀ o, w4.frozen? ⟨w3.heap.size, o, none⟩ = false) ?_ ?_; (· (intro o; refine (o3.frozen (p := ⟨w3.heap.size, o, none⟩) ?_).trans ?_; (· (first | (simp; done) | (simp; omega))); (· (first | (simp [go_sem]; done) | (simp [go_sem, *]; done))))); intro)); (try (refine have2 (p := ∀ o, w4.cell? ⟨w3.heap.size, o, none⟩ = [Value.bool false, .slice none 0 0, .slice none 0 0][o]?) ?_ ?_; (· (intro o; refine (o3.cell (p := ⟨w3.heap.size, o, none⟩) ?_).trans ?_; (· (first | (simp; done) | (simp; omega))); (· (first | (simp [go_sem]; done) | (simp [go_sem, *]; done))))); intro)))))
  · refine at_normal (fun W' => Hid (AwOk w b w4.heap.size z4 zb zc B4 B M W')) (Lib.hid (AwOk.new HX.out hlt k0 hB4 HO.out)) ?_
    generalize w4.heap.size = b2
    intro W5 H5
    have h0 := H5.out.2.1.2; have h1 := H5.out.2.2.1.2; clear k0; go_wp2_with (first | (go_at_call 15; refine (bot_c _).mono ?_; rintro e w6 ⟨rfl, hb6⟩; have H6 := Lib.hid (H5.out.below hb6); replace h0 := H6.out.2.1.2; replace h1 := H6.out.2.2.1.2; clear hb6) | (go_at_call 13; refine (same_ok ⟨z4, 0, none⟩ ⟨zb, 0, none⟩ B4 B 2 2 zc 1 1 1 M M (topLn fun _ => 4) (topLn fun _ => 4) (topRr fun _ => 3) (topRr fun _ => 3) _ (by omega) H6.out.2.2.2.2.2.1 H6.out.2.2.2.1 H6.out.2.2.2.2.2.2 H6.out.2.2.2.2.1).mono ?_; rw [sameCC_self, Z.alikeB_true (Z.Alike.refl M 2)]; rintro e w7 ⟨rfl, hb7⟩; have H7 := Lib.hid (H6.out.below hb7); replace h0 := H7.out.2.1.2; replace h1 := H7.out.2.2.1.2; clear hb7)); go_ret; exact ⟨rfl, H7.out.1⟩
  · refine at_normal (fun W' => Hid (AwOk w b w3.heap.size z4 zb zc B4 B M W')) (Lib.hid (AwOk.put HX.out hlt k0 hB4 (by simpa using hbz4) HO.out (by omega) (by simp) (by assumption))) ?_
    generalize w3.heap.size = b2
    intro W5 H5
    have h0 := H5.out.2.1.2; have h1 := H5.out.2.2.1.2; clear k0; go_wp2_with (first | (go_at_call 15; refine (bot_c _).mono ?_; rintro e w6 ⟨rfl, hb6⟩; have H6 := Lib.hid (H5.out.below hb6); replace h0 := H6.out.2.1.2; replace h1 := H6.out.2.2.1.2; clear hb6) | (go_at_call 13; refine (same_ok ⟨z4, 0, none⟩ ⟨zb, 0, none⟩ B4 B 2 2 zc 1 1 1 M M (topLn fun _ => 4) (topLn fun _ => 4) (topRr fun _ => 3) (topRr fun _ => 3) _ (by omega) H6.out.2.2.2.2.2.1 H6.out.2.2.2.1 H6.out.2.2.2.2.2.2 H6.out.2.2.2.2.1).mono ?_; rw [sameCC_self, Z.alikeB_true (Z.Alike.refl M 2)]; rintro e w7 ⟨rfl, hb7⟩; have H7 := Lib.hid (H6.out.below hb7); replace h0 := H7.out.2.1.2; replace h1 := H7.out.2.2.1.2; clear hb7)); go_ret; exact ⟨rfl, H7.out.1⟩
  · refine at_normal (fun W' => Hid (AwOk w b W.heap.size z4 zb zc B4 B M W')) (Lib.hid (AwOk.put HX.out hlt k0 hB4 hbz4 HO.out (by omega) (by omega) (by assumption))) ?_
    generalize W.heap.size = b2
    intro W5 H5
    have h0 := H5.out.2.1.2; have h1 := H5.out.2.2.1.2; clear k0; go_wp2_with (first | (go_at_call 15; refine (bot_c _).mono ?_; rintro e w6 ⟨rfl, hb6⟩; have H6 := Lib.hid (H5.out.below hb6); replace h0 := H6.out.2.1.2; replace h1 := H6.out.2.2.1.2; clear hb6) | (go_at_call 13; refine (same_ok ⟨z4, 0, none⟩ ⟨zb, 0, none⟩ B4 B 2 2 zc 1 1 1 M M (topLn fun _ => 4) (topLn fun _ => 4) (topRr fun _ => 3) (topRr fun _ => 3) _ (by omega) H6.out.2.2.2.2.2.1 H6.out.2.2.2.1 H6.out.2.2.2.2.2.2 H6.out.2.2.2.2.1).mono ?_; rw [sameCC_self, Z.alikeB_true (Z.Alike.refl M 2)]; rintro e w7 ⟨rfl, hb7⟩; have H7 := Lib.hid (H6.out.below hb7); replace h0 := H7.out.2.1.2; replace h1 := H7.out.2.2.1.2; clear hb7)); go_ret; exact ⟨rfl, H7.out.1⟩
end Go.Proofs.Ytdmphpkiclfhhaa.C
