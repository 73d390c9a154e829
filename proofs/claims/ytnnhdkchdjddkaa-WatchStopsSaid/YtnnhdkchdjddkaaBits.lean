/- Bits of numbers that lie in 32 bits: plain law, over any program. -/
import Derived.Laws.BitsLemmas
namespace Go.Proofs.Ytnnhdkchdjddkaa.C
theorem wrap_i64_nat (v : BitVec 64) : IntKind.i64.wrap (v.toNat : Int) = v.toInt := by
  rw [IntKind.wrap_i64, BitVec.toInt_eq_toNat_cond]
  have := v.isLt
  split <;> omega
theorem wrap_i32_nat (v : BitVec 32) : IntKind.i32.wrap (v.toNat : Int) = v.toInt := by
  rw [IntKind.wrap_i32, BitVec.toInt_eq_toNat_cond]
  have := v.isLt
  split <;> omega
theorem ofInt_sx (x : Int) (h : -2147483648 ≤ x ∧ x ≤ 2147483647) : BitVec.ofInt 64 x = (BitVec.ofInt 32 x).signExtend 64 := by
  apply BitVec.eq_of_toInt_eq
  rw [BitVec.toInt_signExtend_of_le (by decide), BitVec.toInt_ofInt, BitVec.toInt_ofInt]
  simp only [Int.bmod]
  split <;> split <;> omega
theorem ofInt_zx (x : Int) (h : 0 ≤ x ∧ x ≤ 4294967295) : BitVec.ofInt 64 x = (BitVec.ofInt 32 x).setWidth 64 := by
  apply BitVec.eq_of_toNat_eq
  rw [BitVec.toNat_setWidth, BitVec.toNat_ofInt, BitVec.toNat_ofInt]
  omega
def isBit (op : BinOp) : Prop := op = .and ∨ op = .or ∨ op = .xor
theorem bits_i32 {op : BinOp} (ho : isBit op) (x y : Int) (hx : -2147483648 ≤ x ∧ x ≤ 2147483647) (hy : -2147483648 ≤ y ∧ y ≤ 2147483647) : bits op .i64 x y = bits op .i32 x y := by
  have ex := ofInt_sx x hx
  have ey := ofInt_sx y hy
  rcases ho with rfl | rfl | rfl
  · show IntKind.i64.wrap ((BitVec.ofInt 64 x &&& BitVec.ofInt 64 y).toNat : Int) = IntKind.i32.wrap ((BitVec.ofInt 32 x &&& BitVec.ofInt 32 y).toNat : Int)
    rw [wrap_i64_nat, wrap_i32_nat, ex, ey, ← BitVec.signExtend_and, BitVec.toInt_signExtend_of_le (by decide)]
  · show IntKind.i64.wrap ((BitVec.ofInt 64 x ||| BitVec.ofInt 64 y).toNat : Int) = IntKind.i32.wrap ((BitVec.ofInt 32 x ||| BitVec.ofInt 32 y).toNat : Int)
    rw [wrap_i64_nat, wrap_i32_nat, ex, ey, ← BitVec.signExtend_or, BitVec.toInt_signExtend_of_le (by decide)]
  · show IntKind.i64.wrap ((BitVec.ofInt 64 x ^^^ BitVec.ofInt 64 y).toNat : Int) = IntKind.i32.wrap ((BitVec.ofInt 32 x ^^^ BitVec.ofInt 32 y).toNat : Int)
    rw [wrap_i64_nat, wrap_i32_nat, ex, ey, ← BitVec.signExtend_xor, BitVec.toInt_signExtend_of_le (by decide)]
theorem toInt_zx (v : BitVec 32) : (v.setWidth 64).toInt = (v.toNat : Int) := by
  rw [BitVec.toInt_eq_toNat_cond, BitVec.toNat_setWidth]
  have := v.isLt
  split <;> omega
theorem bits_u32 {op : BinOp} (ho : isBit op) (x y : Int) (hx : 0 ≤ x ∧ x ≤ 4294967295) (hy : 0 ≤ y ∧ y ≤ 4294967295) : bits op .i64 x y = bits op .u32 x y := by
  have ex := ofInt_zx x hx
  have ey := ofInt_zx y hy
  rcases ho with rfl | rfl | rfl
  · show IntKind.i64.wrap ((BitVec.ofInt 64 x &&& BitVec.ofInt 64 y).toNat : Int) = IntKind.u32.wrap ((BitVec.ofInt 32 x &&& BitVec.ofInt 32 y).toNat : Int)
    rw [wrap_i64_nat, IntKind.wrap_u32, ex, ey, ← BitVec.setWidth_and, toInt_zx]
    have := (BitVec.ofInt 32 x &&& BitVec.ofInt 32 y).isLt
    omega
  · show IntKind.i64.wrap ((BitVec.ofInt 64 x ||| BitVec.ofInt 64 y).toNat : Int) = IntKind.u32.wrap ((BitVec.ofInt 32 x ||| BitVec.ofInt 32 y).toNat : Int)
    rw [wrap_i64_nat, IntKind.wrap_u32, ex, ey, ← BitVec.setWidth_or, toInt_zx]
    have := (BitVec.ofInt 32 x ||| BitVec.ofInt 32 y).isLt
    omega
  · show IntKind.i64.wrap ((BitVec.ofInt 64 x ^^^ BitVec.ofInt 64 y).toNat : Int) = IntKind.u32.wrap ((BitVec.ofInt 32 x ^^^ BitVec.ofInt 32 y).toNat : Int)
    rw [wrap_i64_nat, IntKind.wrap_u32, ex, ey, ← BitVec.setWidth_xor, toInt_zx]
    have := (BitVec.ofInt 32 x ^^^ BitVec.ofInt 32 y).isLt
    omega
theorem bits_i32_bd (op : BinOp) (x y : Int) : -2147483648 ≤ bits op .i32 x y ∧ bits op .i32 x y ≤ 2147483647 := by
  unfold bits
  simp only
  rw [IntKind.wrap_i32]
  omega
theorem bits_u32_bd (op : BinOp) (x y : Int) : 0 ≤ bits op .u32 x y ∧ bits op .u32 x y ≤ 4294967295 := by
  unfold bits
  simp only
  rw [IntKind.wrap_u32]
  omega
theorem bits_com (a : Int) (h : -9223372036854775808 ≤ a ∧ a ≤ 9223372036854775807) : bits .xor .i64 (-1) a = -1 - a := by
  show IntKind.i64.wrap ((BitVec.ofInt 64 (-1) ^^^ BitVec.ofInt 64 a).toNat : Int) = _
  rw [wrap_i64_nat, show BitVec.ofInt 64 (-1) = BitVec.allOnes 64 from by decide, BitVec.allOnes_xor, BitVec.toInt_not, BitVec.toNat_ofInt]
  simp only [Int.bmod]
  split <;> omega
theorem bits_com32 (a : Int) (h : 0 ≤ a ∧ a ≤ 4294967295) : bits .xor .u32 4294967295 a = 4294967295 - a := by
  show IntKind.u32.wrap ((BitVec.ofInt 32 4294967295 ^^^ BitVec.ofInt 32 a).toNat : Int) = _
  rw [IntKind.wrap_u32, show BitVec.ofInt 32 4294967295 = BitVec.allOnes 32 from by decide, BitVec.allOnes_xor, BitVec.toNat_not, BitVec.toNat_ofInt]
  omega
end Go.Proofs.Ytnnhdkchdjddkaa.C
