/- The reference's digest and name of a text are the program's, where the text has at most 140737488351232 bytes. -/
import Derived.Test.YtkbknndlkjodpaaDoorShaRef
import Derived.Test.YtkbknndlkjodpaaDoorExt
import Derived.Test.YtkbknndlkjodpaaDoorPObjx6
namespace Go.Proofs.YtkbknndlkjodpaaDoor.Sha
open Go Go.RowKit Go.Proofs.YtkbknndlkjodpaaDoorW.PrintWords Go.Proofs.YtkbknndlkjodpaaDoorW.PrintMore Go.Proofs.YtkbknndlkjodpaaDoor.PObj Go.Proofs.YtkbknndlkjodpaaDoor.FW
set_option linter.unusedVariables false
set_option linter.unusedSimpArgs false

theorem w64 {x : Int} (h0 : 0 ≤ x) (h : x < 9223372036854775808) : wrap64 x = x := by unfold wrap64; omega
theorem turn_eq (x n : Int) (h : 1 ≤ n) (h' : n ≤ 31) : graftageref02_turn.f x n = some (T x n) := by
  unfold graftageref02_turn.f
  rw [if_pos (by omega), if_pos (by rw [w64 (by omega) (by omega)]; omega), w64 (by omega) (by omega)]
  unfold T shl shr
  rw [or_comm', wrap_u32, show min (32 - n).toNat (IntKind.bits .u32) = (32 - n).toNat by simp [IntKind.bits]; omega, show min n.toNat (IntKind.bits .u32) = n.toNat by simp [IntKind.bits]; omega]
theorem bt_strOf {l : List Int} (h : ∀ x ∈ l, 0 ≤ x ∧ x < 256) (i : Int) : bt (strOfNums l) i = l.getD i.toNat 0 := by rw [← byts_getD, byts_strOf h]
theorem size_strOf (l : List Int) : (strOfNums l).size = l.length := by simp [strOfNums, ByteArray.size]
theorem getD_map (f : Nat → Int) (n i : Nat) (h : i < n) : ((List.range n).map f).getD i 0 = f i := by
  simp [List.getD, h]
theorem rd_map (f : Nat → Int) (n : Nat) (i : Int) (j : Nat) (hi : i = (j : Int)) (h : j < n) : rd ((List.range n).map f) i = f j := by
  subst hi
  exact getD_map f n j h
theorem map_succ (f : Nat → Int) (n : Nat) : (List.range (n + 1)).map f = (List.range n).map f ++ [f n] := by simp [List.range_succ]
theorem words_l1 (b : ByteArray) : ∀ (n t k : Nat), t + n = 64 → 16 ≤ t → n + 1 ≤ k → graftageref02_words.l1 k ((List.range t).map (sch b)) t = some ((List.range 64).map (sch b))
  | n, t, 0, _, _, h => by omega
  | 0, t, k + 1, ht, _, h => by
    obtain rfl : t = 64 := by omega
    rw [graftageref02_words.l1, if_neg (by omega)]
  | n + 1, t, k + 1, ht, h16, h => by
    have ih := words_l1 b n (t + 1) k (by omega) (by omega) (by omega)
    have e15 : wrap64 ((t : Int) - 15) = ((t - 15 : Nat) : Int) := by rw [w64 (by omega) (by omega)]; omega
    have e2 : wrap64 ((t : Int) - 2) = ((t - 2 : Nat) : Int) := by rw [w64 (by omega) (by omega)]; omega
    have e7 : wrap64 ((t : Int) - 7) = ((t - 7 : Nat) : Int) := by rw [w64 (by omega) (by omega)]; omega
    have e16 : wrap64 ((t : Int) - 16) = ((t - 16 : Nat) : Int) := by rw [w64 (by omega) (by omega)]; omega
    have e1 : wrap64 ((t : Int) + 1) = ((t + 1 : Nat) : Int) := by rw [w64 (by omega) (by omega)]; omega
    have hl : ((List.range t).map (sch b)).length = t := by simp
    rw [graftageref02_words.l1]
    rw [e15, e2, e7, e16, e1, hl]
    clear e15 e2 e7 e16 e1 hl
    rw [if_pos (by omega), if_pos (by omega), if_pos (by omega), if_pos (by omega), if_pos (by omega)]
    rw [rd_map _ t _ (t - 15) rfl (by omega), rd_map _ t _ (t - 2) rfl (by omega), rd_map _ t _ (t - 7) rfl (by omega), rd_map _ t _ (t - 16) rfl (by omega)]
    rw [turn_eq _ 7 (by omega) (by omega), turn_eq _ 18 (by omega) (by omega), turn_eq _ 17 (by omega) (by omega), turn_eq _ 19 (by omega) (by omega)]
    simp only [Option.bind_some]
    rw [if_pos (by omega), if_pos (by omega), if_pos (by omega), if_pos (by omega), if_pos (by omega)]
    rw [← ih, map_succ, sch_hi b t (by omega)]
    unfold F
    simp only [Int.emod_add_emod, Int.add_emod_emod]
theorem words_l0 (l : List Int) (hl : ∀ x ∈ l, 0 ≤ x ∧ x < 256) (i : Nat) (hi : 64 * i + 64 ≤ l.length) (hL : l.length < 9223372036854775808) : ∀ (n t k : Nat), t + n = 16 → n + 51 ≤ k →
    graftageref02_words.l0 k (strOfNums l) ((64 * i : Nat) : Int) ((List.range t).map (sch (B l i))) t = some ((List.range 64).map (sch (B l i)))
  | n, t, 0, _, h => by omega
  | 0, t, k + 1, ht, h => by
    obtain rfl : t = 16 := by omega
    rw [graftageref02_words.l0, if_neg (by omega)]
    exact words_l1 _ 48 16 k (by omega) (by omega) (by omega)
  | n + 1, t, k + 1, ht, h => by
    have ih := words_l0 l hl i hi hL n (t + 1) k (by omega) (by omega)
    have e0 : wrap64 (4 * (t : Int)) = 4 * (t : Int) := w64 (by omega) (by omega)
    have e1 : wrap64 (((64 * i : Nat) : Int) + 4 * (t : Int)) = ((64 * i + 4 * t : Nat) : Int) := by rw [w64 (by omega) (by omega)]; push_cast; rfl
    have f1 : wrap64 (((64 * i + 4 * t : Nat) : Int) + 1) = ((64 * i + 4 * t + 1 : Nat) : Int) := by rw [w64 (by omega) (by omega)]; push_cast; rfl
    have f2 : wrap64 (((64 * i + 4 * t : Nat) : Int) + 2) = ((64 * i + 4 * t + 2 : Nat) : Int) := by rw [w64 (by omega) (by omega)]; push_cast; rfl
    have f3 : wrap64 (((64 * i + 4 * t : Nat) : Int) + 3) = ((64 * i + 4 * t + 3 : Nat) : Int) := by rw [w64 (by omega) (by omega)]; push_cast; rfl
    have g1 : wrap64 ((t : Int) + 1) = ((t + 1 : Nat) : Int) := by rw [w64 (by omega) (by omega)]; push_cast; rfl
    have hm : ((List.range t).map (sch (B l i))).length = t := by simp
    rw [graftageref02_words.l0]
    rw [e0, e1, f1, f2, f3, g1, size_strOf, hm]
    clear e0 e1 f1 f2 f3 g1 hm
    rw [if_pos (by omega), if_pos (by omega), if_pos (by omega), if_pos (by omega), if_pos (by omega), if_pos (by omega), if_pos (by omega), if_pos (by omega), if_pos (by omega), if_pos (by omega)]
    rw [← ih, map_succ, sch_lo _ t (by omega), W4_eq]
    have hB : ∀ j : Nat, j < 64 → bt (B l i) (j : Int) = bt (strOfNums l) ((64 * i + j : Nat) : Int) := fun j hj => by
      rw [B, bt_strOf hl, bt_strOf (fun x hx => hl x (List.mem_of_mem_drop (List.mem_of_mem_take hx)))]
      simp only [Int.toNat_natCast]
      simp [List.getD, hj, List.getElem?_drop]
    have b0 : bt (B l i) (4 * (t : Int)) = bt (strOfNums l) ((64 * i + 4 * t : Nat) : Int) := by
      have h := hB (4 * t) (by omega)
      rwa [show ((4 * t : Nat) : Int) = 4 * (t : Int) by omega] at h
    have b1 : bt (B l i) (4 * (t : Int) + 1) = bt (strOfNums l) ((64 * i + 4 * t + 1 : Nat) : Int) := by
      have h := hB (4 * t + 1) (by omega)
      rwa [show ((4 * t + 1 : Nat) : Int) = 4 * (t : Int) + 1 by omega, show 64 * i + (4 * t + 1) = 64 * i + 4 * t + 1 by omega] at h
    have b2 : bt (B l i) (4 * (t : Int) + 2) = bt (strOfNums l) ((64 * i + 4 * t + 2 : Nat) : Int) := by
      have h := hB (4 * t + 2) (by omega)
      rwa [show ((4 * t + 2 : Nat) : Int) = 4 * (t : Int) + 2 by omega, show 64 * i + (4 * t + 2) = 64 * i + 4 * t + 2 by omega] at h
    have b3 : bt (B l i) (4 * (t : Int) + 3) = bt (strOfNums l) ((64 * i + 4 * t + 3 : Nat) : Int) := by
      have h := hB (4 * t + 3) (by omega)
      rwa [show ((4 * t + 3 : Nat) : Int) = 4 * (t : Int) + 3 by omega, show 64 * i + (4 * t + 3) = 64 * i + 4 * t + 3 by omega] at h
    rw [b0, b1, b2, b3]
    have r0 := bt_lt (strOfNums l) ((64 * i + 4 * t : Nat) : Int)
    generalize bt (strOfNums l) ((64 * i + 4 * t : Nat) : Int) = a at *
    have r1 := bt_lt (strOfNums l) ((64 * i + 4 * t + 1 : Nat) : Int)
    generalize bt (strOfNums l) ((64 * i + 4 * t + 1 : Nat) : Int) = b at *
    have r2 := bt_lt (strOfNums l) ((64 * i + 4 * t + 2 : Nat) : Int)
    generalize bt (strOfNums l) ((64 * i + 4 * t + 2 : Nat) : Int) = c at *
    have r3 := bt_lt (strOfNums l) ((64 * i + 4 * t + 3 : Nat) : Int)
    generalize bt (strOfNums l) ((64 * i + 4 * t + 3 : Nat) : Int) = d at *
    congr 3
    clear b0 b1 b2 b3 hB ih
    omega
theorem block_l0 (b : ByteArray) (V : Nat → Int) (x0 : List Int) (hx : x0.length = 8) : ∀ (n t k : Nat), t + n = 64 → n + 1 ≤ k →
    graftageref02_block.l0 k x0 ((List.range 64).map (sch b)) ktab (rnds ktab b V t 0) (rnds ktab b V t 1) (rnds ktab b V t 2) (rnds ktab b V t 3) (rnds ktab b V t 4) (rnds ktab b V t 5) (rnds ktab b V t 6) (rnds ktab b V t 7) t = some ((List.range 8).map fun j : Nat => (rd x0 (j : Int) + rnds ktab b V 64 j) % 4294967296)
  | n, t, 0, _, h => by omega
  | 0, t, k + 1, ht, h => by
    obtain rfl : t = 64 := by omega
    rw [graftageref02_block.l0, if_neg (by omega), hx]
    rw [if_pos (by omega), if_pos (by omega), if_pos (by omega), if_pos (by omega), if_pos (by omega), if_pos (by omega), if_pos (by omega), if_pos (by omega)]
    rfl
  | n + 1, t, k + 1, ht, h => by
    have ih := block_l0 b V x0 hx n (t + 1) k (by omega) (by omega)
    have g1 : wrap64 ((t : Int) + 1) = ((t + 1 : Nat) : Int) := by rw [w64 (by omega) (by omega)]; push_cast; rfl
    have hk : ktab.length = 64 := rfl
    have hm : ((List.range 64).map (sch b)).length = 64 := by simp
    rw [graftageref02_block.l0, if_pos (show (t : Int) < 64 by clear hm hk; omega), turn_eq _ 6 (by omega) (by omega), turn_eq _ 11 (by omega) (by omega), turn_eq _ 25 (by omega) (by omega), turn_eq _ 2 (by omega) (by omega), turn_eq _ 13 (by omega) (by omega), turn_eq _ 22 (by omega) (by omega)]
    simp only [Option.bind_some]
    rw [g1, hk, hm]
    clear g1 hk hm
    rw [if_pos (by omega), if_pos (by omega), if_pos (by omega), rd_map _ 64 _ t rfl (by omega)]
    rw [← ih]
    have hr : rd ktab (t : Int) = ktab.getD t 0 := rfl
    rw [hr]
    have eX : X (rnds ktab b V t) (ktab.getD t 0) (sch b t) = rnds ktab b V t 7 + bits .xor .u32 (bits .xor .u32 (T (rnds ktab b V t 4) 6) (T (rnds ktab b V t 4) 11)) (T (rnds ktab b V t 4) 25) + bits .xor .u32 (bits .and .u32 (rnds ktab b V t 4) (rnds ktab b V t 5)) (bits .and .u32 (bits .xor .u32 (IntKind.max .u32) (rnds ktab b V t 4)) (rnds ktab b V t 6)) + ktab.getD t 0 + sch b t := by
      unfold X
      rw [not_and, and_comm' (rnds ktab b V t 4) (rnds ktab b V t 5)]
    have e0 : rnds ktab b V (t + 1) 0 = (X (rnds ktab b V t) (ktab.getD t 0) (sch b t) + Y (rnds ktab b V t)) % 4294967296 := rfl
    have e4 : rnds ktab b V (t + 1) 4 = (rnds ktab b V t 3 + X (rnds ktab b V t) (ktab.getD t 0) (sch b t)) % 4294967296 := rfl
    have e1 : rnds ktab b V (t + 1) 1 = rnds ktab b V t 0 := rfl
    have e2 : rnds ktab b V (t + 1) 2 = rnds ktab b V t 1 := rfl
    have e3 : rnds ktab b V (t + 1) 3 = rnds ktab b V t 2 := rfl
    have e5 : rnds ktab b V (t + 1) 5 = rnds ktab b V t 4 := rfl
    have e6 : rnds ktab b V (t + 1) 6 = rnds ktab b V t 5 := rfl
    have e7 : rnds ktab b V (t + 1) 7 = rnds ktab b V t 6 := rfl
    rw [e0, e1, e2, e3, e4, e5, e6, e7, eX]
    unfold Y
    simp only [Int.emod_add_emod, Int.add_emod_emod]
theorem block_eq (b : ByteArray) (V : Nat → Int) (k : Nat) (hk : 65 ≤ k) : graftageref02_block.f k ((List.range 8).map V) ((List.range 64).map (sch b)) ktab = some ((List.range 8).map (comp ktab b V)) := by
  have hl : ((List.range 8).map V).length = 8 := by simp
  unfold graftageref02_block.f
  rw [hl, if_pos (by omega), if_pos (by omega), if_pos (by omega), if_pos (by omega), if_pos (by omega), if_pos (by omega), if_pos (by omega), if_pos (by omega)]
  refine (block_l0 b V _ hl 64 0 k (by omega) (by omega)).trans ?_
  rfl
theorem digest_l3 (V : Nat → Int) : ∀ (n t k : Nat), t + n = 8 → n + 1 ≤ k → graftageref02_Digest.l3 k ((List.range 8).map V) (outs V t) t = some (strOfNums (outs V 8))
  | n, t, 0, _, h => by omega
  | 0, t, k + 1, ht, h => by
    obtain rfl : t = 8 := by omega
    rw [graftageref02_Digest.l3, if_neg (by omega)]
  | n + 1, t, k + 1, ht, h => by
    have ih := digest_l3 V n (t + 1) k (by omega) (by omega)
    have g1 : wrap64 ((t : Int) + 1) = ((t + 1 : Nat) : Int) := by rw [w64 (by omega) (by omega)]; push_cast; rfl
    have hm : ((List.range 8).map V).length = 8 := by simp
    rw [graftageref02_Digest.l3, hm, g1, if_pos (by omega), if_pos (by omega), if_pos (by omega), rd_map _ 8 _ t rfl (by omega)]
    simp only [Option.bind_some]
    rw [if_pos (by rw [outs_length]; simp; omega), ← ih, outs_succ]
    rfl
theorem digest_l2 (l : List Int) (hl : ∀ x ∈ l, 0 ≤ x ∧ x < 256) (m : Nat) (hm : l.length = 64 * m) (hL : l.length < 4611686018427387904) : ∀ (n i k : Nat), i + n = m → n + 70 ≤ k →
    graftageref02_Digest.l2 k (strOfNums l) ((List.range 8).map (run (B l) V0 i)) ktab ((64 * i : Nat) : Int) = some (strOfNums (outs (run (B l) V0 m) 8))
  | n, i, 0, _, h => by omega
  | 0, i, k + 1, hi, h => by
    obtain rfl : i = m := by omega
    rw [graftageref02_Digest.l2, size_strOf, if_neg (by omega)]
    exact digest_l3 _ 8 0 k (by omega) (by omega)
  | n + 1, i, k + 1, hi, h => by
    have ih := digest_l2 l hl m hm hL n (i + 1) k (by omega) (by omega)
    have g1 : wrap64 (((64 * i : Nat) : Int) + 64) = ((64 * (i + 1) : Nat) : Int) := by rw [w64 (by omega) (by omega)]; push_cast; omega
    rw [graftageref02_Digest.l2, size_strOf, if_pos (by omega), g1]
    have hw : graftageref02_words.f k (strOfNums l) ((64 * i : Nat) : Int) = some ((List.range 64).map (sch (B l i))) := words_l0 l hl i (by omega) (by omega) 16 0 k (by omega) (by omega)
    rw [hw]
    simp only [Option.bind_some]
    rw [block_eq _ _ k (by omega)]
    simp only [Option.bind_some]
    exact ih
theorem digest_l1 (s : ByteArray) (hs : s.size ≤ 140737488351232) : ∀ (n t k : Nat), t + n = 8 → n + s.size + 100 ≤ k →
    graftageref02_Digest.l1 k s ((s.size : Int) * 8) ((128 :: List.replicate (zs (s.size % 64)) 0) ++ lenb ((s.size : Int) * 8) t) (7 - (t : Int)) = some (digest s)
  | n, t, 0, _, h => by omega
  | 0, t, k + 1, ht, h => by
    obtain rfl : t = 8 := by omega
    have hw : s ++ strOfNums ((128 :: List.replicate (zs (s.size % 64)) 0) ++ lenb ((s.size : Int) * 8) 8) = strOfNums (whole s) := by
      apply byts_inj
      rw [byts_append, byts_strOf, byts_strOf (whole_range s), whole, List.append_assoc]
      intro x hx
      refine whole_range s x ?_
      rw [whole, List.append_assoc]
      exact List.mem_append_right _ hx
    rw [graftageref02_Digest.l1, if_neg (by omega), if_pos (by
      rw [size_strOf]
      simp only [List.length_append, List.length_cons, List.length_replicate, lenb_length, zs]
      omega), hw]
    have hwl := whole_length s
    have hz : zs (s.size % 64) < 64 := by unfold zs; omega
    have := digest_l2 (whole s) (whole_range s) ((s.size + zs (s.size % 64) + 9) / 64) hwl (by omega) ((s.size + zs (s.size % 64) + 9) / 64) 0 k (by omega) (by omega)
    refine Eq.trans this ?_
    unfold digest
    rw [last_eq, hwl, Nat.mul_div_cancel_left _ (by omega)]
  | n + 1, t, k + 1, ht, h => by
    have ih := digest_l1 s hs n (t + 1) k (by omega) (by omega)
    have g0 : wrap64 (8 * (7 - (t : Int))) = 56 - 8 * (t : Int) := by rw [w64 (by omega) (by omega)]; omega
    have g1 : wrap64 (7 - (t : Int) - 1) = 7 - ((t + 1 : Nat) : Int) := by
      unfold wrap64
      omega
    have hz : zs (s.size % 64) < 64 := by unfold zs; omega
    rw [graftageref02_Digest.l1, if_pos (by omega), g0, g1, if_pos (by omega), if_pos (by simp only [List.length_append, List.length_cons, List.length_replicate, lenb_length]; omega)]
    rw [← ih, lenb_succ, List.append_assoc]
    have e : (56 - 8 * (t : Int)).toNat = 56 - 8 * t := by omega
    have hsh : shr .u64 ((s.size : Int) * 8) (56 - 8 * (t : Int)) = (s.size : Int) * 8 / 2 ^ (56 - 8 * t) := by
      unfold shr
      rw [e, show min (56 - 8 * t) (IntKind.bits .u64) = 56 - 8 * t by simp [IntKind.bits]; omega]
    rw [hsh]
theorem digest_l0 (s : ByteArray) (hs : s.size ≤ 140737488351232) : ∀ (n t k : Nat), t + n = zs (s.size % 64) → n + s.size + 120 ≤ k →
    graftageref02_Digest.l0 k s ((s.size : Int) * 8) (128 :: List.replicate t 0) = some (digest s)
  | n, t, 0, _, h => by omega
  | 0, t, k + 1, ht, h => by
    obtain rfl : t = zs (s.size % 64) := by omega
    have hz : zs (s.size % 64) = (119 - s.size % 64) % 64 := rfl
    have hl : ((128 :: List.replicate (zs (s.size % 64)) 0 : List Int)).length = zs (s.size % 64) + 1 := by simp
    rw [graftageref02_Digest.l0, hl, w64 (by omega) (by omega), Int.tmod_eq_emod_of_nonneg (by omega), if_pos (by omega)]
    have := digest_l1 s hs 8 0 k (by omega) (by omega)
    simpa [lenb] using this
  | n + 1, t, k + 1, ht, h => by
    have ih := digest_l0 s hs n (t + 1) k (by omega) (by omega)
    have hz : zs (s.size % 64) = (119 - s.size % 64) % 64 := rfl
    have hl : ((128 :: List.replicate t 0 : List Int)).length = t + 1 := by simp
    rw [graftageref02_Digest.l0, hl, w64 (by omega) (by omega), Int.tmod_eq_emod_of_nonneg (by omega), if_neg (by omega), if_pos (by omega), ← ih]
    simp [List.replicate_succ']
/-- The reference's digest is the program's. -/
theorem digest_same (s : ByteArray) (hs : s.size ≤ 140737488351232) (k : Nat) (hk : s.size + 200 ≤ k) : graftageref02_Digest.f k s = some (digest s) := by
  unfold graftageref02_Digest.f
  have e : IntKind.u64.wrap (IntKind.u64.wrap (s.size : Int) * 8) = (s.size : Int) * 8 := by
    simp [IntKind.wrap, IntKind.bits, IntKind.signed]
    omega
  rw [e]
  have hz : zs (s.size % 64) < 64 := by unfold zs; omega
  exact digest_l0 s hs (zs (s.size % 64)) 0 k (by omega) (by omega)
theorem outs_range (V : Nat → Int) (n : Nat) : ∀ x ∈ outs V n, 0 ≤ x ∧ x < 256 := by
  intro x hx
  simp only [outs, List.mem_flatMap, be4, List.mem_cons, List.not_mem_nil, or_false] at hx
  obtain ⟨_, _, rfl | rfl | rfl | rfl⟩ := hx <;> omega
theorem digest_size (s : ByteArray) : (digest s).size = 32 := by rw [digest, size_strOf, outs_length]

/-! Hex -/
def hexd : ByteArray := ⟨#[48, 49, 50, 51, 52, 53, 54, 55, 56, 57, 97, 98, 99, 100, 101, 102]⟩
def hex2 (x : Int) : List Int := [bt hexd (x / 16), bt hexd (x % 16)]
def hexs (s : ByteArray) (n : Nat) : List Int := (List.range n).flatMap fun i : Nat => hex2 (bt s (i : Int))
theorem hexs_succ (s : ByteArray) (n : Nat) : hexs s (n + 1) = hexs s n ++ hex2 (bt s (n : Int)) := by simp [hexs, List.range_succ]
theorem hexs_length (s : ByteArray) : ∀ n, (hexs s n).length = 2 * n
  | 0 => rfl
  | n + 1 => by rw [hexs_succ, List.length_append, hexs_length s n]; simp [hex2]; omega
theorem and15 (x : Int) (h : 0 ≤ x) (h' : x < 256) : Go.bits .and .u8 x 15 = x % 16 := by
  have key : ∀ n : Fin 256, Go.bits .and .u8 (n.val : Int) 15 = (n.val : Int) % 16 := by decide +kernel
  obtain ⟨m, rfl⟩ := Int.eq_ofNat_of_zero_le h
  exact key ⟨m, by omega⟩
theorem hexI (s : ByteArray) (hs : s.size < 1000000) : ∀ (n t k : Nat), t + n = s.size → n + 1 ≤ k → ident_Hex.l0 k s (hexs s t) (s.size : Int) (t : Int) = some (strOfNums (hexs s s.size))
  | n, t, 0, _, h => by omega
  | 0, t, k + 1, ht, h => by
    obtain rfl : t = s.size := by omega
    rw [ident_Hex.l0, if_neg (by omega)]
  | n + 1, t, k + 1, ht, h => by
    have ih := hexI s hs n (t + 1) k (by omega) (by omega)
    have g1 : wrap64 ((t : Int) + 1) = ((t + 1 : Nat) : Int) := by rw [w64 (by omega) (by omega)]; push_cast; rfl
    have r := bt_lt s (t : Int)
    rw [ident_Hex.l0, and15 _ r.1 r.2, g1, if_pos (by omega), if_pos (by omega), if_pos (by omega), if_pos (by omega), if_pos (by omega), if_pos (by omega), if_pos (by omega)]
    simp only [Option.bind_some]
    rw [if_pos (by rw [hexs_length]; simp; omega), ← ih, hexs_succ]
    rfl
theorem hexR (s : ByteArray) (hs : s.size < 1000000) : ∀ (n t k : Nat), t + n = s.size → n + 1 ≤ k → graftageref02_Hex.l0 k s hexd (hexs s t) (t : Int) = some (strOfNums (hexs s s.size))
  | n, t, 0, _, h => by omega
  | 0, t, k + 1, ht, h => by
    obtain rfl : t = s.size := by omega
    rw [graftageref02_Hex.l0, if_neg (by omega)]
  | n + 1, t, k + 1, ht, h => by
    have ih := hexR s hs n (t + 1) k (by omega) (by omega)
    have g1 : wrap64 ((t : Int) + 1) = ((t + 1 : Nat) : Int) := by rw [w64 (by omega) (by omega)]; push_cast; rfl
    have r := bt_lt s (t : Int)
    have hh : (hexd.size : Int) = 16 := rfl
    rw [graftageref02_Hex.l0, Int.tdiv_eq_ediv_of_nonneg r.1, Int.tmod_eq_emod_of_nonneg r.1, g1, hh, show bt s (t : Int) / 16 % 256 = bt s (t : Int) / 16 by omega, if_pos (by omega), if_pos (by omega), if_pos (by omega), if_pos (by omega), if_pos (by omega), if_pos (by omega)]
    simp only [Option.bind_some]
    rw [if_pos (by rw [hexs_length]; simp; omega), ← ih, hexs_succ]
    rfl
/-- A text's name. -/
def nameOf (s : ByteArray) : ByteArray := strOfNums (hexs ((digest s).extract 0 20) 20)
theorem cut20 (s : ByteArray) : ((digest s).extract 0 20).size = 20 := by rw [ByteArray.size_extract, digest_size]; rfl
theorem of_prog (s : ByteArray) (hs : s.size ≤ 140737488351232) (k : Nat) (hk : 200 ≤ k) : ident_Of.f k s = some (nameOf s) := by
  unfold ident_Of.f ident_Digest.f
  rw [if_pos hs]
  simp only [Option.bind_some]
  rw [digest_size, if_pos (by omega), if_pos (by omega)]
  have hc := cut20 s
  have h := hexI ((digest s).extract 0 20) (by omega) 20 0 k (by omega) (by omega)
  unfold ident_Hex.f
  rw [hc] at h ⊢
  rw [if_pos (by decide +kernel), if_pos (by decide +kernel)]
  have h' : ident_Hex.l0 k ((digest s).extract 0 20) [] ((20 : Nat) : Int) 0 = some (strOfNums (hexs ((digest s).extract 0 20) 20)) := h
  rw [h']
  rfl
theorem of_ref (s : ByteArray) (hs : s.size ≤ 140737488351232) (k : Nat) (hk : s.size + 200 ≤ k) : graftageref02_Of.f k s = some (nameOf s) := by
  unfold graftageref02_Of.f
  rw [digest_same s hs k hk]
  simp only [Option.bind_some]
  rw [digest_size, if_pos (by omega), if_pos (by omega)]
  have hc := cut20 s
  have h := hexR ((digest s).extract 0 20) (by omega) 20 0 k (by omega) (by omega)
  rw [hc] at h
  unfold graftageref02_Hex.f
  have h' : graftageref02_Hex.l0 k ((digest s).extract 0 20) (⟨#[48, 49, 50, 51, 52, 53, 54, 55, 56, 57, 97, 98, 99, 100, 101, 102]⟩ : ByteArray) [] 0 = some (strOfNums (hexs ((digest s).extract 0 20) 20)) := h
  rw [h']
  rfl
theorem nameOf_size (s : ByteArray) : (nameOf s).size = 40 := by rw [nameOf, size_strOf, hexs_length]
end Go.Proofs.YtkbknndlkjodpaaDoor.Sha
