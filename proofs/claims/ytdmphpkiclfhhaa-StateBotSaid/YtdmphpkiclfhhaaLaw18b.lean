/- StateBot: walk (printed by gen_law18.py). -/
import Derived.Test.YtdmphpkiclfhhaaLaw18
import Derived.Test.YtdmphpkiclfhhaaRefItv
namespace Go.Proofs.Ytdmphpkiclfhhaa.C
open Go.RowKit
set_option linter.unusedSimpArgs false
set_option linter.unusedVariables false
attribute [local go_sem] fieldItv0 fieldItv1 fieldSt0
def BotIn (w : World) (bv bY bb bt zb zc k c1 g : Nat) (A B : Option Addr) (nm : Nat → ByteArray) (x y : Int) (W : World) : Prop :=
  Below w.heap.size w W ∧ SB bv W [.int .i64 x, .int .i64 y] ∧ SB bY W [.slice A k c1, .slice (some ⟨g, 0, none⟩) 1 1] ∧ SB bb W [.bool true, .slice none 0 0, .slice none 0 0] ∧ SB bt W [.bool false, .slice (some ⟨zb, 0, none⟩) (k + 1) zc, .slice B 1 1] ∧ BR W A k nm (fun _ => 3) (fun _ => 0) (fun i => (i : Int))
theorem BotIn.below {w : World} {bv bY bb bt zb zc k c1 g : Nat} {A B : Option Addr} {nm : Nat → ByteArray} {x y : Int} {W W' : World} (h : BotIn w bv bY bb bt zb zc k c1 g A B nm x y W) (hb : Below W.heap.size W W') : BotIn w bv bY bb bt zb zc k c1 g A B nm x y W' :=
  ⟨below_next h.1 h.1.size hb, h.2.1.below hb, h.2.2.1.below hb, h.2.2.2.1.below hb, h.2.2.2.2.1.below hb, h.2.2.2.2.2.below hb⟩
set_option maxRecDepth 100000 in
set_option maxHeartbeats 12800000 in
theorem stateBot_c (a i j c x y : Int) (w : World) (ha : 0 ≤ a ∧ a ≤ 255) :
    Calls Try.prog 4 #[.int .u8 a, .int .i64 i, .int .i64 j, .int .i64 c, .agg #[.int .i64 x, .int .i64 y]] w fun e w' => e = .returned (.bool true) ∧ Below w.heap.size w w' := by
  obtain ⟨k, hk⟩ : ∃ k : Nat, a.tmod 5 = k := ⟨(a.tmod 5).toNat, by rw [Int.tmod_eq_emod_of_nonneg ha.1]; omega⟩
  have hk5 : k < 5 := by rw [Int.tmod_eq_emod_of_nonneg ha.1] at hk; omega
  have hd : IntKind.i64.wrap a = a := IntWalk.i64_in _ (by omega)
  have RE : ∀ W, Calls Try.prog 23 #[.agg #[.int .i64 1, .int .i64 0]] W fun e w' => e = .returned (.bool true) ∧ Below W.heap.size W w' := fun W => (riEmpty_x 1 0 W).mono fun e w' ⟨h1, h2⟩ => ⟨h1, by rw [← h2]; exact (Below.refl _ _).alloc (Nat.le_refl _) _⟩
  go_enter Try.func4, Try.ntmps4
  go_upto_region 2 with (go_at_call 6; refine (layout_c k (by omega) _).mono ?_; rintro e w1 ⟨A, c1, g, nm, rfl, h1, h2, h3⟩; have H1 := Lib.hid (And.intro h1 (And.intro h2 h3)); clear h1 h2 h3)
  have hal := fun o => (Below.refl w1.heap.size w1).alloc (Nat.le_refl _) o
  refine at_world (fun W => Hid (BR W A k nm (fun _ => 3) (fun _ => 0) (fun i => (i : Int)) ∧ BR W (some ⟨g, 0, none⟩) 1 (fun _ => ⟨#[97]⟩) (fun _ => 3) (fun _ => 4) (fun _ => 0) ∧ Below w.heap.size w W ∧ SB w.heap.size W [.int .i64 x, .int .i64 y] ∧ SB w1.heap.size W [.slice A k c1, .slice (some ⟨g, 0, none⟩) 1 1])) (Lib.hid ⟨H1.out.1.below (hal _), H1.out.2.1.below (hal _), (((Below.refl w.heap.size w).alloc (Nat.le_refl _) _).trans (below_next (Below.refl _ _) (Nat.le_refl _) H1.out.2.2 |>.mono (by simp))).trans ((hal _).mono (by have := H1.out.2.2.size; simp at this; omega)), (SB.new.below H1.out.2.2).below (hal _), SB.new⟩) ?_
  generalize w1.heap.size = bY
  clear hal H1
  intro W1 HH1
  go_upto_region 3 with (go_at_call 15; refine (bot_c _).mono ?_; rintro e w2 ⟨rfl, hb⟩; have HH2 := Lib.hid hb; clear hb)
  have hal := fun o => below_next HH2.out HH2.out.size ((Below.refl w2.heap.size w2).alloc (Nat.le_refl _) o)
  have hW := HH1.out
  refine at_world (fun W => Hid (BR W A k nm (fun _ => 3) (fun _ => 0) (fun i => (i : Int)) ∧ BR W (some ⟨g, 0, none⟩) 1 (fun _ => ⟨#[97]⟩) (fun _ => 3) (fun _ => 4) (fun _ => 0) ∧ Below w.heap.size w W ∧ SB w.heap.size W [.int .i64 x, .int .i64 y] ∧ SB bY W [.slice A k c1, .slice (some ⟨g, 0, none⟩) 1 1] ∧ SB w2.heap.size W [.bool true, .slice none 0 0, .slice none 0 0])) (Lib.hid ⟨hW.1.below (hal _), hW.2.1.below (hal _), below_next hW.2.2.1 hW.2.2.1.size (hal _), hW.2.2.2.1.below (hal _), hW.2.2.2.2.below (hal _), SB.new⟩) ?_
  generalize w2.heap.size = bb
  clear hal HH1 HH2 hW
  intro W2 HH1
  have hv := HH1.out.2.2.2.1.2
  have hy := HH1.out.2.2.2.2.1.2
  have hbb := HH1.out.2.2.2.2.2.2
  have L3 := fun W => le_bot true none none 0 0 0 0 W
  go_wp2_with (first | (go_at_call 16; refine (stTop_c A (some ⟨g, 0, none⟩) k 1 c1 1 nm _ _ _ _ _ _ _ _ (by omega) (by omega) HH1.out.1 HH1.out.2.1 (ne_I16 _ _)).mono ?_; rintro e w3 ⟨zb, R, C, zc, B, rfl, _, _, hb3⟩; have hal := below_next hb3 hb3.size ((Below.refl w3.heap.size w3).alloc (Nat.le_refl _) (.cells #[.bool false, .slice (some ⟨zb, 0, none⟩) (k + 1) zc, .slice B 1 1] 34)); have hW := HH1.out; have H : Hid (BotIn w w.heap.size bY bb w3.heap.size zb zc k c1 g A B nm x y (w3.alloc (.cells #[.bool false, .slice (some ⟨zb, 0, none⟩) (k + 1) zc, .slice B 1 1] 34))) := Lib.hid ⟨below_next hW.2.2.1 hW.2.2.1.size hal, hW.2.2.2.1.below hal, hW.2.2.2.2.1.below hal, hW.2.2.2.2.2.below hal, SB.new, hW.1.below hal⟩; clear hal hW hb3; replace hv := H.out.2.1.2; replace hy := H.out.2.2.1.2; replace hbb := H.out.2.2.2.1.2; have ht := H.out.2.2.2.2.1.2; have L1 := fun W => le_bot false (some ⟨zb, 0, none⟩) B (k + 1) 1 zc 1 W; have L2 := fun W => le_not (some ⟨zb, 0, none⟩) B (k + 1) 1 zc 1 W) | (go_at_call 17; refine (L1 _).mono ?_; rintro e w' ⟨rfl, hb⟩; clear L1; replace H := Lib.hid (H.out.below hb); replace hv := H.out.2.1.2; replace hy := H.out.2.2.1.2; replace hbb := H.out.2.2.2.1.2; replace ht := H.out.2.2.2.2.1.2; clear hb) | (go_at_call 17; refine (L2 _).mono ?_; rintro e w' ⟨rfl, hb⟩; clear L2; replace H := Lib.hid (H.out.below hb); replace hv := H.out.2.1.2; replace hy := H.out.2.2.1.2; replace hbb := H.out.2.2.2.1.2; replace ht := H.out.2.2.2.2.1.2; clear hb) | (go_at_call 17; refine (L3 _).mono ?_; rintro e w' ⟨rfl, hb⟩; clear L3; replace H := Lib.hid (H.out.below hb); replace hv := H.out.2.1.2; replace hy := H.out.2.2.1.2; replace hbb := H.out.2.2.2.1.2; replace ht := H.out.2.2.2.2.1.2; clear hb) | (go_at_call 18; refine (set_bot _ _ _ _ _ _ _ _ _ _).mono ?_; rintro e w' ⟨rfl, hb⟩; replace H := Lib.hid (H.out.below hb); replace hv := H.out.2.1.2; replace hy := H.out.2.2.1.2; replace hbb := H.out.2.2.2.1.2; replace ht := H.out.2.2.2.2.1.2; clear hb) | (go_at_call 19; refine (less_bot _ _ _ _).mono ?_; rintro e w' ⟨rfl, hb⟩; replace H := Lib.hid (H.out.below hb); replace hv := H.out.2.1.2; replace hy := H.out.2.2.1.2; replace hbb := H.out.2.2.2.1.2; replace ht := H.out.2.2.2.2.1.2; clear hb) | (go_at_call 20; refine (move_bot _ _ _ _).mono ?_; rintro e w' ⟨rfl, hb⟩; replace H := Lib.hid (H.out.below hb); replace hv := H.out.2.1.2; replace hy := H.out.2.2.1.2; replace hbb := H.out.2.2.2.1.2; replace ht := H.out.2.2.2.2.1.2; clear hb) | (go_at_call 21; refine (put_bot _ _ _ _ _ _).mono ?_; rintro e w' ⟨rfl, hb⟩; replace H := Lib.hid (H.out.below hb); replace hv := H.out.2.1.2; replace hy := H.out.2.2.1.2; replace hbb := H.out.2.2.2.1.2; replace ht := H.out.2.2.2.2.1.2; clear hb) | (go_at_call 22; refine (join_bot _).mono ?_; rintro e w' ⟨rfl, hb⟩; replace H := Lib.hid (H.out.below hb); replace hv := H.out.2.1.2; replace hy := H.out.2.2.1.2; replace hbb := H.out.2.2.2.1.2; replace ht := H.out.2.2.2.2.1.2; clear hb) | (go_at_call 11; refine (widen_bot A (some ⟨g, 0, none⟩) k 1 c1 1 nm (fun _ => 3) (fun _ => 0) (fun i => (i : Int)) _ (by omega) H.out.2.2.2.2.2).mono ?_; rintro e w' ⟨rfl, hb⟩; replace H := Lib.hid (H.out.below hb); replace hv := H.out.2.1.2; replace hy := H.out.2.2.1.2; replace hbb := H.out.2.2.2.1.2; replace ht := H.out.2.2.2.2.1.2; clear hb) | (go_at_call 24; refine (var_bot _ _).mono ?_; rintro e w' ⟨rfl, hb⟩; replace H := Lib.hid (H.out.below hb); replace hv := H.out.2.1.2; replace hy := H.out.2.2.1.2; replace hbb := H.out.2.2.2.1.2; replace ht := H.out.2.2.2.2.1.2; clear hb) | (go_at_call 25; refine (elem_bot _ _ _ _).mono ?_; rintro e w' ⟨rfl, hb⟩; replace H := Lib.hid (H.out.below hb); replace hv := H.out.2.1.2; replace hy := H.out.2.2.1.2; replace hbb := H.out.2.2.2.1.2; replace ht := H.out.2.2.2.2.1.2; clear hb) | (go_at_call 23; refine (RE _).mono ?_; rintro e w' ⟨rfl, hb⟩; replace H := Lib.hid (H.out.below hb); replace hv := H.out.2.1.2; replace hy := H.out.2.2.1.2; replace hbb := H.out.2.2.2.1.2; replace ht := H.out.2.2.2.2.1.2; clear hb) | (go_at_call 5; refine (awake18_c _).mono ?_; rintro e w' ⟨rfl, hb⟩; replace H := Lib.hid (H.out.below hb); replace hv := H.out.2.1.2; replace hy := H.out.2.2.1.2; replace hbb := H.out.2.2.2.1.2; replace ht := H.out.2.2.2.2.1.2; clear hb))
  go_ret
  exact ⟨rfl, H.out.1⟩
end Go.Proofs.Ytdmphpkiclfhhaa.C
