/- Layer 14 in plain words: the reference's Parse tells what the program's tells. -/
import Derived.Test.YtkbknndlkjodpaaDoorParse
import Derived.Test.YtkbknndlkjodpaaDoorPObjx10
namespace Go.Proofs.YtkbknndlkjodpaaDoor.Plain
open Go Go.RowKit Go.Proofs.YtkbknndlkjodpaaDoorW.PrintWords Go.Proofs.YtkbknndlkjodpaaDoorW.PrintMore Go.Proofs.YtkbknndlkjodpaaDoor.PObj Go.Proofs.YtkbknndlkjodpaaDoor.FW Go.Proofs.YtkbknndlkjodpaaDoor.Sha
set_option linter.unusedVariables false
set_option linter.unusedSimpArgs false

theorem kind_ref (l : List UInt8) (k : Nat) (hk : 6 ≤ k) : graftageref14_Kind.f k (byt l) = some (kindOf l) := by
  obtain ⟨k, rfl⟩ : ∃ k', k = k' + 6 := ⟨k - 6, by omega⟩
  unfold graftageref14_Kind.f kindOf
  iterate 5 rw [graftageref14_Kind.l0]
  simp only [word_ref, Option.bind_some, byt_toList]
  rw [if_pos (show (1 : Int) ≤ 4 by omega), show wrap64 (1 + 1) = 2 by decide +kernel, if_pos (show (2 : Int) ≤ 4 by omega), show wrap64 (2 + 1) = 3 by decide +kernel, if_pos (show (3 : Int) ≤ 4 by omega), show wrap64 (3 + 1) = 4 by decide +kernel, if_pos (show (4 : Int) ≤ 4 by omega), show wrap64 (4 + 1) = 5 by decide +kernel, if_neg (show ¬ (5 : Int) ≤ 4 by omega)]
  show (if [98, 108, 111, 98] = l then some 1 else if [116, 114, 101, 101] = l then some 2 else if [99, 111, 109, 109, 105, 116] = l then some 3 else if [116, 97, 103] = l then some 4 else some 0) = _
  repeat (split; rfl)
  rfl
theorem find_l0 (l : List UInt8) (c : UInt8) (hl : l.length < 4294967296) : ∀ (n i k : Nat), i + n = l.length → n + 1 ≤ k →
    graftageref14_Find.l0 k (byt l) (c.toNat : Int) (i : Int) = some (match brk c (l.drop i) with | some x => ((i + x.1.length : Nat) : Int) | none => -1)
  | n, i, 0, _, h => by omega
  | 0, i, k + 1, hi, h => by
    obtain rfl : i = l.length := by omega
    rw [graftageref14_Find.l0, byt_size, if_neg (by omega), List.drop_length]
    rfl
  | n + 1, i, k + 1, hi, h => by
    have ih := find_l0 l c hl n (i + 1) k (by omega) (by omega)
    have g1 : wrap64 ((i : Int) + 1) = ((i + 1 : Nat) : Int) := by rw [w64 (by omega) (by omega)]; push_cast; rfl
    obtain ⟨b, hb, hd⟩ := drop_cons (l := l) (i := i) (by omega)
    rw [graftageref14_Find.l0, byt_size, if_pos (by omega), if_pos (by omega), bt_byt l i b hb, g1, hd, brk]
    by_cases hc : b = c
    · subst hc
      rw [if_pos rfl, if_pos rfl]
      rfl
    · have hc' : ¬ (b.toNat : Int) = (c.toNat : Int) := fun e => hc (UInt8.toNat_inj.1 (by omega))
      rw [if_neg hc', if_neg hc, ih]
      cases brk c (l.drop (i + 1)) with
      | none => rfl
      | some x =>
        simp only [Option.map_some, List.length_cons]
        congr 2
        omega
theorem find_eq (l : List UInt8) (c : UInt8) (hl : l.length < 4294967296) (k : Nat) (hk : l.length + 1 ≤ k) : graftageref14_Find.f k (byt l) (c.toNat : Int) 0 = some (match brk c l with | some x => (x.1.length : Int) | none => -1) := by
  unfold graftageref14_Find.f
  have := find_l0 l c hl l.length 0 k (by omega) (by omega)
  simpa using this

theorem number_l0 (l : List UInt8) (hl : l.length ≤ 7) : ∀ (n i v k : Nat), i + n = l.length → v < 10 ^ i → n + 1 ≤ k →
    graftageref14_Number.l0 k (byt l) (v : Int) (i : Int) = some (match num v (l.drop i) with | some n => (n : Int) | none => -1)
  | n, i, v, 0, _, _, h => by omega
  | 0, i, v, k + 1, hi, hv, h => by
    obtain rfl : i = l.length := by omega
    rw [graftageref14_Number.l0, byt_size, if_neg (by omega), List.drop_length]
    rfl
  | n + 1, i, v, k + 1, hi, hv, h => by
    have hp : 10 ^ i ≤ 10 ^ 7 := Nat.pow_le_pow_right (by omega) (by omega)
    obtain ⟨b, hb, hd⟩ := drop_cons (l := l) (i := i) (by omega)
    have g1 : wrap64 ((i : Int) + 1) = ((i + 1 : Nat) : Int) := by rw [w64 (by omega) (by omega)]; push_cast; rfl
    rw [graftageref14_Number.l0, byt_size, if_pos (by omega), if_pos (by omega), bt_byt l i b hb, g1, hd, num]
    by_cases h1 : b.toNat < 48
    · rw [if_pos (by omega), if_neg (by omega)]
    · rw [if_neg (by omega)]
      by_cases h2 : 57 < b.toNat
      · rw [if_pos (by omega), if_neg (by omega)]
      · rw [if_neg (by omega), if_pos (by omega)]
        have hv7 : v < 10000000 := Nat.lt_of_lt_of_le hv hp
        clear hp
        have e : wrap64 (wrap64 (10 * (v : Int)) + ((b.toNat : Int) - 48) % 256) = ((10 * v + (b.toNat - 48) : Nat) : Int) := by
          clear hv hd hb g1
          have e1 : ((b.toNat : Int) - 48) % 256 = ((b.toNat - 48 : Nat) : Int) := by omega
          rw [e1, w64 (x := 10 * (v : Int)) (by omega) (by omega), w64 (by omega) (by omega)]
          omega
        rw [e]
        exact number_l0 l hl n (i + 1) (10 * v + (b.toNat - 48)) k (by omega) (by rw [Nat.pow_succ]; omega) (by omega)
theorem number_eq (l : List UInt8) (hL : l.length < 4294967296) (k : Nat) (hk : 10 ≤ k) : graftageref14_Number.f k (byt l) 7 = some (match numOf l with | some n => (n : Int) | none => -1) := by
  obtain ⟨k, rfl⟩ : ∃ k', k = k' + 1 := ⟨k - 1, by omega⟩
  have hbad : ∀ b : Bool, (b = true ↔ Bad l) → graftageref14_Number.j0 (k + 1) (byt l) b = some (match numOf l with | some n => (n : Int) | none => -1) := by
    intro b hb
    unfold numOf
    rw [graftageref14_Number.j0]
    by_cases hB : Bad l
    · rw [if_pos (hb.2 hB), if_pos hB]
    · rw [if_neg (fun e => hB (hb.1 e)), if_neg hB]
      have := number_l0 l (by unfold Bad at hB; omega) l.length 0 0 k (by omega) (by omega) (by unfold Bad at hB; omega)
      simpa using this
  unfold graftageref14_Number.f
  rw [byt_size]
  by_cases h1 : l.length < 1
  · rw [if_pos (by omega)]
    exact hbad true ⟨fun _ => .inl h1, fun _ => rfl⟩
  · rw [if_neg (by omega)]
    by_cases h7 : l.length > 7
    · rw [if_pos (by omega)]
      exact hbad true ⟨fun _ => .inr (.inl h7), fun _ => rfl⟩
    · rw [if_neg (by omega)]
      have hh := bt_head l (by omega)
      by_cases h2 : l.length > 1
      · rw [if_pos (by omega), if_pos (by omega)]
        exact hbad _ ⟨fun h => .inr (.inr ⟨hh.1 (beq_iff_eq.1 h), h2⟩), fun h => by
          rw [beq_iff_eq, hh]
          rcases h with h | h | h
          · exact absurd h (by omega)
          · exact absurd h (by omega)
          · exact h.1⟩
      · rw [if_neg (by omega)]
        exact hbad false ⟨fun h => Bool.noConfusion h, fun h => by
          rcases h with h | h | ⟨_, h⟩
          · exact absurd h (by omega)
          · exact absurd h (by omega)
          · exact absurd h (by omega)⟩
theorem kind_nul {x : List UInt8} (h : (0 : UInt8) ∈ x) : kindOf x = 0 := by
  rcases Int.decEq (kindOf x) 0 with h0 | h0
  · have := (word_kind x h0).1
    rw [← this] at h
    exact absurd h (word_plain _).2
  · exact h0
theorem ref_bad (k : Nat) (a : ByteArray) (b c : Int) : graftageref14_Parse.j0 (k + 1) a b c true = some (0, byt [], 2) := by rw [graftageref14_Parse.j0, if_pos rfl]; rfl
theorem parse_ref (l : List UInt8) (hl : l.length < 4000000000) (k : Nat) (hk : l.length + 20 ≤ k) : graftageref14_Parse.f k (byt l) = some (parsed l) := by
  obtain ⟨k, rfl⟩ : ∃ k', k = k' + 1 := ⟨k - 1, by omega⟩
  have f32 := find_eq l 32 (by omega) (k + 1) (by omega)
  have f0 := find_eq l 0 (by omega) (k + 1) (by omega)
  unfold graftageref14_Parse.f parsed
  have e32 : graftageref14_Find.f (k + 1) (byt l) 32 0 = _ := f32
  have e0 : graftageref14_Find.f (k + 1) (byt l) 0 0 = _ := f0
  rw [e32, e0]
  simp only [Option.bind_some]
  cases h1 : brk 32 l with
  | none =>
    simp only
    rw [if_pos (by omega), ref_bad]
  | some x =>
    obtain ⟨x, y⟩ := x
    obtain ⟨hx, hx0⟩ := brk_some h1
    have hlen := congrArg List.length hx
    simp at hlen
    simp only
    rw [if_neg (by omega)]
    by_cases hz : (0 : UInt8) ∈ x
    · obtain ⟨u, v, h3, h4⟩ := brk_front (32 :: y) hz
      rw [← hx] at h3
      rw [h3]
      simp only
      rw [if_pos (by omega), ref_bad, kind_nul hz]
      cases brk 0 y with
      | none => rfl
      | some u => simp only; rw [if_pos trivial]
    · cases h2 : brk 0 y with
      | none =>
        have hn : brk 0 l = none := brk_free (by rw [hx]; simp [hz]; exact brk_none h2)
        rw [hn]
        simp only
        rw [if_pos (by omega), ref_bad]
      | some u =>
        obtain ⟨u, v⟩ := u
        obtain ⟨hu, hu0⟩ := brk_some h2
        have hlen2 := congrArg List.length hu
        simp at hlen2
        have hb : brk 0 l = some (x ++ 32 :: u, v) := by
          rw [hx, hu, show x ++ 32 :: (u ++ 0 :: v) = (x ++ 32 :: u) ++ 0 :: v by simp]
          exact brk_app v (by simp [hz, hu0])
        have hxx : (byt l).extract 0 ((x.length : Nat) : Int).toNat = byt x := by
          rw [byt_extract, hx]
          simp
        have huu : (byt l).extract (x.length + 1) ((x ++ 32 :: u).length) = byt u := by
          rw [byt_extract, hx, hu]
          congr 1
          rw [show x ++ 32 :: (u ++ 0 :: v) = (x ++ [32]) ++ (u ++ 0 :: v) by simp, List.drop_append_of_le_length (by simp), List.drop_of_length_le (by simp), List.nil_append, show (x ++ 32 :: u).length - (x.length + 1) = u.length by simp; omega, List.take_left]
        have hvv : (byt l).extract ((x ++ 32 :: u).length + 1) (byt l).size = byt v := by
          rw [byt_extract, byt_size, hx, hu]
          congr 1
          rw [show x ++ 32 :: (u ++ 0 :: v) = (x ++ 32 :: u ++ [0]) ++ v by simp, List.drop_append_of_le_length (by simp; omega), List.drop_of_length_le (by simp; omega), List.nil_append]
          exact List.take_of_length_le (by simp; omega)
        have hlen3 : (x ++ 32 :: u).length = x.length + 1 + u.length := by simp; omega
        rw [hb]
        simp only
        rw [hlen3] at huu hvv ⊢
        rw [if_neg (by omega), if_pos (by omega), byt_size, if_pos (by omega), hxx, kind_ref x _ (by omega)]
        simp only [Option.bind_some]
        by_cases hk0 : kindOf x = 0
        · rw [if_pos hk0, hk0, show ((0 : Int) == 0) = true by decide, ref_bad]
        · rw [if_neg hk0, show (kindOf x == 0) = false from beq_eq_false_iff_ne.mpr hk0]
          have w1 : wrap64 ((x.length : Int) + 1) = ((x.length + 1 : Nat) : Int) := by rw [w64 (by omega) (by omega)]; push_cast; rfl
          have w2 : wrap64 (wrap64 ((l.length : Int) - ((x.length + 1 + u.length : Nat) : Int)) - 1) = (v.length : Int) := by
            have e : (l.length : Int) - ((x.length + 1 + u.length : Nat) : Int) = (v.length : Int) + 1 := by omega
            rw [e]
            unfold wrap64
            omega
          have w3 : wrap64 (((x.length + 1 + u.length : Nat) : Int) + 1) = ((x.length + 1 + u.length + 1 : Nat) : Int) := by rw [w64 (by omega) (by omega)]; push_cast; rfl
          rw [graftageref14_Parse.j0, if_neg (by simp), w1, byt_size, w2, w3, hxx]
          simp only [Int.toNat_natCast]
          rw [huu]
          rw [byt_size] at hvv
          rw [hvv, if_pos (by omega), if_pos (by omega), if_pos (by omega), number_eq u (by omega) _ (by omega)]
          simp only [Option.bind_some]
          cases numOf u with
          | none => simp only; rw [if_pos (by omega)]; rfl
          | some n =>
            simp only [judge]
            rw [if_neg (by omega)]
            by_cases c1 : n > 1048576
            · rw [if_pos (by omega), if_pos c1]; rfl
            · rw [if_neg (by omega), if_neg c1]
              by_cases c2 : v.length < n
              · rw [if_pos (by omega), if_pos c2]; rfl
              · rw [if_neg (by omega), if_neg c2]
                by_cases c3 : v.length > n
                · rw [if_pos (by omega), if_pos c3]; rfl
                · rw [if_neg (by omega), if_neg c3, if_pos (by omega), if_pos (by omega), kind_ref x _ (by omega)]
                  simp only [Option.bind_some]
                  rw [if_pos (by omega), if_pos (by omega)]
end Go.Proofs.YtkbknndlkjodpaaDoor.Plain
