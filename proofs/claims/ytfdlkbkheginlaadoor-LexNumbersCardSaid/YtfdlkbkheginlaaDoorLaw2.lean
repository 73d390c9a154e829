/- The walks of the laws of layer 2: awake, LexPlaces. -/
import Derived.Test.YtfdlkbkheginlaaDoorLex
import Derived.Test.YtfdlkbkheginlaaDoorLexQ
namespace Go.Proofs.YtfdlkbkheginlaaDoor.C
open Go.RowKit
set_option linter.unusedSimpArgs false
set_option linter.unusedVariables false
theorem num_c (e : Int) (w : World) : Calls Tryd.prog 9 #[.int .i64 e] w fun e' w' => e' = .returned (.int .i64 e) ∧ w = w' := by
  go_enter Tryd.func9, Tryd.ntmps9
  go_wp2
  go_ret
  exact ⟨rfl, rfl⟩
/-- Lex at a text whose tokens are known. -/
theorem lex_say {aL aW : Addr} {s : ByteArray} {w : World} (hg : GL aL aW w) (hs : s.size ≤ 4611686018427387904) {ts : List Tok} {n : Nat} {E p : Int} (hR : lexR s.data.toList = (ts, E, p)) (hn : ts.length = n) :
    Calls Tryd.prog 8 #[.string s] w fun e w' => ∃ A c, e = .returned (.tuple #[.slice A n c, .int .i64 E, .int .i64 p]) ∧ TR w' A ts ∧ Below w.heap.size w w' := by
  have h := lex_c aL aW s w hg hs
  rw [hR] at h
  subst hn
  exact h
theorem awake_lex : lexR [120, 61, 49, 117, 59] = ([⟨1, [120], 0⟩, ⟨4, [61], 1⟩, ⟨2, [49, 117], 2⟩, ⟨4, [59], 4⟩, ⟨0, [], 5⟩], 0, 0) := by kernel_rfl
set_option maxHeartbeats 1000000 in
theorem awake2_c (aL aW : Addr) (w : World) (hg : GL aL aW w) : Calls Tryd.prog 7 #[] w fun e w' => e = .returned (.bool true) ∧ Below w.heap.size w w' := by
  have HL := lex_say (s := ⟨#[120, 61, 49, 117, 59]⟩) hg (by decide) awake_lex rfl
  clear hg
  go_enter Tryd.func7, Tryd.ntmps7
  go_upto_region 2 with (go_at_call 8; refine HL.mono ?_; rintro e w1 ⟨A, c, rfl, ht, hb⟩)
  obtain ⟨g, rfl, hgz, hc⟩ := ht (by simp)
  have c1 := (hc 2 _ rfl).2.1
  have HB := Lib.hid hb
  simp only [Nat.reduceMul, Nat.reduceAdd] at c1
  clear hc hb HL ht
  go_wp2_with (go_at_call 9; refine (num_c _ _).mono ?_; rintro e w' ⟨rfl, rfl⟩)
  go_ret
  exact ⟨rfl, HB.out⟩
end Go.Proofs.YtfdlkbkheginlaaDoor.C
