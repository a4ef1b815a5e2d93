/- The walk of ident.turn: it turns a 32-bit number to the right, where the places are 1 to 31. -/
import Derived.Test.YtkbknndlkjodpaaDoorProg
import Derived.WalkKit
import Derived.Below
import Derived.Outline
import Derived.Lib.Hide
namespace Go.Proofs.YtkbknndlkjodpaaDoor.Sha
open Go Go.RowKit

/-- x turned to the right by n places. -/
def T (x n : Int) : Int := bits .or .u32 ((x * 2 ^ (32 - n).toNat) % 4294967296) (x / 2 ^ n.toNat)

theorem low5 (n : Int) (h : 1 ≤ n) (h' : n ≤ 31) : bits .and .u64 (IntKind.u64.wrap (-n)) 31 = 32 - n := by
  have key : ∀ n : Fin 32, n.val ≠ 0 → bits .and .u64 (IntKind.u64.wrap (-(n.val : Int))) 31 = 32 - (n.val : Int) := by decide +kernel
  obtain ⟨m, rfl⟩ := Int.eq_ofNat_of_zero_le (show 0 ≤ n by omega)
  exact key ⟨m, by omega⟩ (by simp; omega)

set_option maxHeartbeats 400000 in
theorem turn_calls (x n : Int) (h0 : 1 ≤ n) (h1 : n ≤ 31) (w : World) :
    Calls Tryd.prog 45 #[.int .u32 x, .int .i64 n] w fun e w' => e = .returned (.int .u32 (T x n)) ∧ w' = w := by
  have hl := low5 n h0 h1
  have a0 : (0 : Int) ≤ 32 - n := by omega
  have a1 : 32 - n ≤ (IntKind.u32.bits : Int) := by simp [IntKind.bits]; omega
  have e3 : IntKind.u64.wrap (32 - (32 - n)) = n := by simp [IntKind.wrap, IntKind.bits, IntKind.signed]; omega
  have b1 : n ≤ (IntKind.u32.bits : Int) := by simp [IntKind.bits]; omega
  have s1 := shift_shl .u32 .u64 x (32 - n) a0 a1
  have s2 := shift_shr .u32 .u64 x n (by omega) b1
  clear a0 a1 b1
  have HT : T x n = bits .or .u32 (IntKind.u32.wrap (x * 2 ^ (32 - n).toNat)) (x / 2 ^ n.toNat) := by simp [T, IntKind.wrap, IntKind.bits, IntKind.signed]
  generalize 32 - n = q at *
  have HTH := Lib.hid HT
  clear HT
  go_enter Tryd.func45, Tryd.ntmps45
  go_wp2
  go_ret
  exact ⟨by rw [HTH.out]; first | rfl | simp [IntKind.wrap, IntKind.bits, IntKind.signed], rfl⟩
end Go.Proofs.YtkbknndlkjodpaaDoor.Sha
