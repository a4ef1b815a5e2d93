/- The plain digest told anew over the whole padded text. -/
import Derived.Test.YtkbknndlkjodpaaDoorShaDig
import Derived.Test.YtkbknndlkjodpaaDoorWMore
import Derived.Test.YtkbknndlkjodpaaDoorWWords
namespace Go.Proofs.YtkbknndlkjodpaaDoor.Sha
open Go Go.RowKit Go.Proofs.YtkbknndlkjodpaaDoorW.PrintWords Go.Proofs.YtkbknndlkjodpaaDoorW.PrintMore
set_option linter.unusedVariables false
set_option linter.unusedSimpArgs false

theorem wrap_u32 (x : Int) : IntKind.u32.wrap x = x % 4294967296 := by simp [IntKind.wrap, IntKind.bits, IntKind.signed]
theorem bits_ofInt (op : BinOp) (x y : Int) : BitVec.ofInt 32 (bits op .u32 x y) = (match op with
    | .and => BitVec.ofInt 32 x &&& BitVec.ofInt 32 y
    | .or => BitVec.ofInt 32 x ||| BitVec.ofInt 32 y
    | .xor => BitVec.ofInt 32 x ^^^ BitVec.ofInt 32 y
    | _ => BitVec.ofInt 32 x &&& ~~~BitVec.ofInt 32 y) := by
  unfold bits
  rw [wrap_u32]
  apply BitVec.eq_of_toInt_eq
  rw [BitVec.toInt_ofInt, BitVec.toInt_eq_toNat_bmod]
  simp only [IntKind.bits]
  have := Int.emod_bmod (x := (((match op with
    | .and => BitVec.ofInt 32 x &&& BitVec.ofInt 32 y
    | .or => BitVec.ofInt 32 x ||| BitVec.ofInt 32 y
    | .xor => BitVec.ofInt 32 x ^^^ BitVec.ofInt 32 y
    | _ => BitVec.ofInt 32 x &&& ~~~BitVec.ofInt 32 y) : BitVec 32).toNat : Int)) (n := 4294967296)
  exact this
theorem bits_ext {op op' : BinOp} {x y x' y' : Int} (h : BitVec.ofInt 32 (bits op .u32 x y) = BitVec.ofInt 32 (bits op' .u32 x' y')) : bits op .u32 x y = bits op' .u32 x' y' := by
  have r : ∀ (op : BinOp) (x y : Int), 0 ≤ bits op .u32 x y ∧ bits op .u32 x y < 4294967296 := fun op x y => by
    unfold bits
    rw [wrap_u32]
    omega
  have h1 := congrArg BitVec.toNat h
  simp only [BitVec.toNat_ofInt] at h1
  have a := r op x y
  have b := r op' x' y'
  omega
theorem and_comm' (x y : Int) : bits .and .u32 x y = bits .and .u32 y x := bits_ext (by rw [bits_ofInt, bits_ofInt]; exact BitVec.and_comm _ _)
theorem or_comm' (x y : Int) : bits .or .u32 x y = bits .or .u32 y x := bits_ext (by rw [bits_ofInt, bits_ofInt]; exact BitVec.or_comm _ _)
theorem not_and (x g : Int) : bits .and .u32 (bits .xor .u32 (IntKind.max .u32) x) g = bits .andNot .u32 g x := by
  refine bits_ext ?_
  rw [bits_ofInt, bits_ofInt]
  simp only
  rw [bits_ofInt]
  simp only
  have e : BitVec.ofInt 32 (IntKind.max .u32) = BitVec.allOnes 32 := by decide +kernel
  rw [e, BitVec.allOnes_xor, BitVec.and_comm]
theorem or_add (n : Nat) (hn : n ≤ 32) (a b : Int) (ha : 0 ≤ a) (hb0 : 0 ≤ b) (hb : b < 2 ^ n) (hab : 2 ^ n * a + b < 4294967296) : bits .or .u32 (2 ^ n * a) b = 2 ^ n * a + b := by
  obtain ⟨a, rfl⟩ := Int.eq_ofNat_of_zero_le ha
  obtain ⟨b, rfl⟩ := Int.eq_ofNat_of_zero_le hb0
  have hb' : b < 2 ^ n := by exact_mod_cast hb
  have hc : ((2 ^ n * a : Nat) : Int) = 2 ^ n * (a : Int) := by rw [Int.natCast_mul, Int.natCast_pow]; rfl
  have hab' : 2 ^ n * a + b < 4294967296 := by rw [← hc] at hab; omega
  have hk := Nat.two_pow_add_eq_or_of_lt hb' a
  unfold bits
  rw [wrap_u32]
  have e1 : BitVec.ofInt (IntKind.bits .u32) (2 ^ n * (a : Int)) = BitVec.ofNat 32 (2 ^ n * a) := by
    rw [show (2 ^ n * (a : Int) : Int) = ((2 ^ n * a : Nat) : Int) by push_cast; rfl]
    rfl
  have e2 : BitVec.ofInt (IntKind.bits .u32) (b : Int) = BitVec.ofNat 32 b := rfl
  rw [e1, e2]
  show ((BitVec.ofNat 32 (2 ^ n * a) ||| BitVec.ofNat 32 b : BitVec 32).toNat : Int) % 4294967296 = _
  rw [BitVec.toNat_or, BitVec.toNat_ofNat, BitVec.toNat_ofNat]
  rw [Nat.mod_eq_of_lt (show 2 ^ n * a < 2 ^ 32 by omega), Nat.mod_eq_of_lt (show b < 2 ^ 32 by omega), ← hk]
  rw [← hc]
  omega
theorem four (a b c d : Int) (ha : 0 ≤ a) (ha' : a < 256) (hb : 0 ≤ b) (hb' : b < 256) (hc : 0 ≤ c) (hc' : c < 256) (hd : 0 ≤ d) (hd' : d < 256) :
    bits .or .u32 (bits .or .u32 (bits .or .u32 (a % 4294967296 * 16777216 % 4294967296) (b % 4294967296 * 65536 % 4294967296)) (c % 4294967296 * 256 % 4294967296)) (d % 4294967296) = a * 16777216 + b * 65536 + c * 256 + d := by
  have e1 : a % 4294967296 * 16777216 % 4294967296 = 2 ^ 24 * a := by omega
  have e2 : b % 4294967296 * 65536 % 4294967296 = b * 65536 := by omega
  have e3 : c % 4294967296 * 256 % 4294967296 = c * 256 := by omega
  have e4 : d % 4294967296 = d := by omega
  rw [e1, e2, e3, e4, or_add 24 (by omega) a (b * 65536) ha (by omega) (by omega) (by omega)]
  rw [show (2 ^ 24 * a + b * 65536 : Int) = 2 ^ 16 * (a * 256 + b) by omega, or_add 16 (by omega) (a * 256 + b) (c * 256) (by omega) (by omega) (by omega) (by omega)]
  rw [show (2 ^ 16 * (a * 256 + b) + c * 256 : Int) = 2 ^ 8 * (a * 65536 + b * 256 + c) by omega, or_add 8 (by omega) (a * 65536 + b * 256 + c) d (by omega) (by omega) (by omega) (by omega)]
  omega
theorem bt_lt (s : ByteArray) (i : Int) : 0 ≤ bt s i ∧ bt s i < 256 := by
  unfold bt
  split
  · rename_i h
    have := (s[i.toNat]'h).toNat_lt
    omega
  · omega
theorem W4_eq (b : ByteArray) (k : Nat) : W4 b k = bt b (4 * k) * 16777216 + bt b (4 * k + 1) * 65536 + bt b (4 * k + 2) * 256 + bt b (4 * k + 3) := by
  unfold W4
  have h0 := bt_lt b (4 * k)
  have h1 := bt_lt b (4 * k + 1)
  have h2 := bt_lt b (4 * k + 2)
  have h3 := bt_lt b (4 * k + 3)
  exact four _ _ _ _ h0.1 h0.2 h1.1 h1.2 h2.1 h2.2 h3.1 h3.2
theorem sch_lo (b : ByteArray) (t : Nat) (h : t < 16) : sch b t = W4 b t := by rw [sch, dif_pos h]
theorem sch_hi (b : ByteArray) (t : Nat) (h : ¬ t < 16) : sch b t = F (sch b (t - 2)) (sch b (t - 7)) (sch b (t - 15)) (sch b (t - 16)) := by rw [sch, dif_neg h]

/-! A string's bytes as numbers. -/
theorem byts_length (s : ByteArray) : (byts s).length = s.size := by simp [byts]
theorem strOf_byts (s : ByteArray) : strOfNums (byts s) = s := by
  apply ByteArray.ext
  apply Array.ext'
  simp only [strOfNums, byts, List.map_map]
  conv => rhs; rw [← List.map_id s.data.toList]
  apply List.map_congr_left
  intro c _
  simp
theorem byts_strOf {l : List Int} (h : ∀ x ∈ l, 0 ≤ x ∧ x < 256) : byts (strOfNums l) = l := by
  simp only [strOfNums, byts, List.map_map]
  conv => rhs; rw [← List.map_id l]
  apply List.map_congr_left
  intro x hx
  have := h x hx
  simp [UInt8.toNat_ofNat]
  omega
theorem byts_append (s t : ByteArray) : byts (s ++ t) = byts s ++ byts t := by simp [byts]
theorem byts_extract (s : ByteArray) (a b : Nat) : byts (s.extract a b) = ((byts s).drop a).take (b - a) := by
  simp [byts, List.map_drop, List.map_take, Array.toList_extract, List.extract_eq_take_drop]
theorem byts_getD (s : ByteArray) (i : Int) : (byts s).getD i.toNat 0 = bt s i := by
  unfold bt
  split
  · rename_i h
    simp [byts, List.getD, h]
    rfl
  · rename_i h
    rw [List.getD, List.getElem?_eq_none (by rw [byts_length]; exact Nat.le_of_not_lt h)]
    rfl
theorem byts_inj {s t : ByteArray} (h : byts s = byts t) : s = t := by rw [← strOf_byts s, ← strOf_byts t, h]
/-- Block i of the numbers l. -/
def B (l : List Int) (i : Nat) : ByteArray := strOfNums ((l.drop (64 * i)).take 64)
theorem run_add (f : Nat → ByteArray) (V : Nat → Int) (q : Nat) : ∀ p, run (fun j => f (q + j)) (run f V q) p = run f V (q + p)
  | 0 => rfl
  | p + 1 => by
    show comp ktab (f (q + p)) _ = comp ktab (f (q + p)) _
    rw [run_add f V q p]
    rfl
theorem run_ext {f g : Nat → ByteArray} (V : Nat → Int) : ∀ n, (∀ i, i < n → f i = g i) → run f V n = run g V n
  | 0, _ => rfl
  | n + 1, h => by
    show comp ktab (f n) _ = comp ktab (g n) _
    rw [run_ext V n (fun i hi => h i (by omega)), h n (by omega)]
/-- The whole padded text's numbers. -/
def whole (s : ByteArray) : List Int := byts s ++ (128 :: List.replicate (zs (s.size % 64)) 0) ++ lenb ((s.size : Int) * 8) 8
theorem whole_length (s : ByteArray) : (whole s).length = 64 * ((s.size + zs (s.size % 64) + 9) / 64) := by
  have : s.size % 64 < 64 := Nat.mod_lt _ (by omega)
  simp only [whole, List.length_append, List.length_cons, List.length_replicate, lenb_length, byts_length, zs]
  omega
theorem pad_eq (s : ByteArray) : pad s = (whole s).drop (64 * (s.size / 64)) := by
  have h : 64 * (s.size / 64) ≤ s.size := by omega
  unfold pad whole
  rw [byts_extract, List.append_assoc, List.append_assoc, List.drop_append_of_le_length (by rw [byts_length]; exact h)]
  congr 1
  apply List.take_of_length_le
  rw [List.length_drop, byts_length]
  omega
theorem last_eq (s : ByteArray) : last s = run (B (whole s)) V0 ((whole s).length / 64) := by
  have h : 64 * (s.size / 64) ≤ s.size := by omega
  have hl : s.size ≤ (whole s).length := by simp [whole, byts_length]
  unfold last
  have e1 : run (fun i => s.extract (64 * i) (64 * i + 64)) V0 (s.size / 64) = run (B (whole s)) V0 (s.size / 64) := by
    apply run_ext
    intro i hi
    have hi' : 64 * i + 64 ≤ s.size := by omega
    apply byts_inj
    rw [byts_extract, B, byts_strOf]
    · have e : 64 * i + 64 - 64 * i = 64 := by omega
      rw [e]
      unfold whole
      rw [List.append_assoc, List.drop_append_of_le_length (by rw [byts_length]; omega), List.take_append_of_le_length (by rw [List.length_drop, byts_length]; omega)]
    · intro x hx
      have := List.mem_of_mem_take hx
      unfold whole at this
      rw [List.append_assoc, List.drop_append_of_le_length (by rw [byts_length]; omega)] at this
      unfold whole at hx
      rw [List.append_assoc, List.drop_append_of_le_length (by rw [byts_length]; omega), List.take_append_of_le_length (by rw [List.length_drop, byts_length]; omega)] at hx
      have := List.mem_of_mem_drop (List.mem_of_mem_take hx)
      simp only [byts, List.mem_map] at this
      obtain ⟨c, _, rfl⟩ := this
      have := c.toNat_lt
      omega
  have e2 : (fun j => strOfNums (((pad s).drop (64 * j)).take 64)) = fun j => B (whole s) (s.size / 64 + j) := by
    funext j
    rw [pad_eq, List.drop_drop]
    unfold B
    congr 3
    omega
  rw [e1, e2, run_add]
  congr 1
  rw [pad_eq, List.length_drop]
  omega
theorem whole_range (s : ByteArray) : ∀ x ∈ whole s, 0 ≤ x ∧ x < 256 := by
  intro x hx
  simp only [whole, List.mem_append, List.mem_cons, List.mem_replicate, lenb, List.mem_map, byts] at hx
  rcases hx with (⟨c, _, rfl⟩ | rfl | ⟨_, rfl⟩) | ⟨i, _, rfl⟩
  · have := c.toNat_lt; omega
  · omega
  · omega
  · omega
end Go.Proofs.YtkbknndlkjodpaaDoor.Sha
