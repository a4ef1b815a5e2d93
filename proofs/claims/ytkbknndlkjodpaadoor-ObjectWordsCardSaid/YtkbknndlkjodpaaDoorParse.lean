/- Layer 14 in plain words: what the program's Parse tells. -/
import Derived.Test.YtkbknndlkjodpaaDoorPlain
namespace Go.Proofs.YtkbknndlkjodpaaDoor.Plain
open Go Go.RowKit Go.Proofs.YtkbknndlkjodpaaDoorW.PrintWords Go.Proofs.YtkbknndlkjodpaaDoorW.PrintMore Go.Proofs.YtkbknndlkjodpaaDoor.PObj Go.Proofs.YtkbknndlkjodpaaDoor.FW Go.Proofs.YtkbknndlkjodpaaDoor.Sha
set_option linter.unusedVariables false
set_option linter.unusedSimpArgs false

/-- What stands ahead of the first c, and behind it. -/
def brk (c : UInt8) : List UInt8 → Option (List UInt8 × List UInt8)
  | [] => none
  | b :: l => if b = c then some ([], l) else (brk c l).map fun x => (b :: x.1, x.2)
theorem brk_some {c : UInt8} : ∀ {l x y : List UInt8}, brk c l = some (x, y) → l = x ++ c :: y ∧ c ∉ x
  | [], x, y, h => by cases h
  | b :: l, x, y, h => by
    unfold brk at h
    split at h
    · rename_i hb
      injection h with h
      injection h with h1 h2
      subst h1 h2 hb
      exact ⟨rfl, by simp⟩
    · rename_i hb
      cases hl : brk c l with
      | none => rw [hl] at h; cases h
      | some p =>
        obtain ⟨x', y'⟩ := p
        rw [hl] at h
        injection h with h
        injection h with h1 h2
        subst h1 h2
        obtain ⟨h3, h4⟩ := brk_some hl
        exact ⟨by rw [h3]; rfl, by simp [h4]; exact fun e => hb e.symm⟩
theorem brk_none {c : UInt8} : ∀ {l : List UInt8}, brk c l = none → c ∉ l
  | [], h => by simp
  | b :: l, h => by
    unfold brk at h
    split at h
    · cases h
    · rename_i hb
      have := brk_none (l := l) (by cases hl : brk c l with
        | none => rfl
        | some p => rw [hl] at h; cases h)
      simp [this]
      exact fun e => hb e.symm
theorem brk_app {c : UInt8} (y : List UInt8) : ∀ {x : List UInt8}, c ∉ x → brk c (x ++ c :: y) = some (x, y)
  | [], h => by simp [brk]
  | b :: x, h => by
    have hb : ¬ b = c := fun e => h (by rw [e]; simp)
    rw [List.cons_append, brk, if_neg hb, brk_app y (fun e => h (by simp [e]))]
    rfl
theorem brk_free {c : UInt8} : ∀ {l : List UInt8}, c ∉ l → brk c l = none
  | [], h => rfl
  | b :: l, h => by
    have hb : ¬ b = c := fun e => h (by rw [e]; simp)
    rw [brk, if_neg hb, brk_free (fun e => h (by simp [e]))]
    rfl
theorem brk_front {c : UInt8} (y : List UInt8) : ∀ {x : List UInt8}, c ∈ x → ∃ u v, brk c (x ++ y) = some (u, v) ∧ u.length < x.length
  | [], h => by simp at h
  | b :: x, h => by
    by_cases hb : b = c
    · exact ⟨[], x ++ y, by rw [List.cons_append, brk, if_pos hb], by simp⟩
    · obtain ⟨u, v, h1, h2⟩ := brk_front y (x := x) (by
        rcases List.mem_cons.1 h with e | e
        · exact absurd e.symm hb
        · exact e)
      exact ⟨b :: u, v, by rw [List.cons_append, brk, if_neg hb, h1]; rfl, by simp; exact h2⟩
theorem index_brk (c : UInt8) : ∀ l : List UInt8, Lib.index l [c] = match brk c l with | some x => (x.1.length : Int) | none => -1
  | [] => rfl
  | b :: l => by
    have ih := index_brk c l
    unfold Lib.index brk
    by_cases hb : b = c
    · subst hb
      rw [if_pos (by simp), if_pos rfl]
      rfl
    · rw [if_neg (by simp; exact fun e => hb e.symm), if_neg hb, ih]
      cases brk c l with
      | none => rfl
      | some x =>
        show (if ((x.1.length : Int) == -1) = true then (-1 : Int) else (x.1.length : Int) + 1) = ((x.1.length + 1 : Nat) : Int)
        rw [if_neg (by rw [beq_iff_eq]; omega)]
        push_cast
        rfl
theorem cut_brk (c : UInt8) (l : List UInt8) : Lib.cut l [c] = match brk c l with | some x => (x.1, x.2, true) | none => (l, [], false) := by
  unfold Lib.cut
  rw [index_brk]
  cases h : brk c l with
  | none => rfl
  | some x =>
    obtain ⟨x, y⟩ := x
    obtain ⟨rfl, _⟩ := brk_some h
    simp
theorem cut_prog (c : UInt8) (l : List UInt8) (h : l.length < 4294967281) : strings_Cut.f (byt l) (byt [c]) = some (match brk c l with | some x => (byt x.1, byt x.2, true) | none => (byt l, byt [], false)) := by
  unfold strings_Cut.f
  rw [byt_size, if_pos h]
  have e1 : (byt l).data.toList = l := by simp [byt]
  have e2 : (byt [c]).data.toList = [c] := by simp [byt]
  rw [e1, e2, cut_brk]
  cases brk c l <;> rfl
theorem drop_cons {l : List UInt8} {i : Nat} (h : i < l.length) : ∃ c, l[i]? = some c ∧ l.drop i = c :: l.drop (i + 1) := ⟨l[i], by simp [h], List.drop_eq_getElem_cons h⟩
/-! Numbers. -/
def num (v : Nat) : List UInt8 → Option Nat
  | [] => some v
  | c :: l => if 48 ≤ c.toNat ∧ c.toNat ≤ 57 then num (10 * v + (c.toNat - 48)) l else none
def Bad (l : List UInt8) : Prop := l.length < 1 ∨ l.length > 7 ∨ (l[0]? = some 48 ∧ 1 < l.length)
open Classical in
noncomputable def numOf (l : List UInt8) : Option Nat := if Bad l then none else num 0 l
theorem digits_l0' (l : List UInt8) (hl : l.length ≤ 7) : ∀ (n i v k : Nat), i + n = l.length → v < 10 ^ i → n + 1 ≤ k →
    object_digits.l0 k (byt l) (v : Int) (l.length : Int) (i : Int) = some (match num v (l.drop i) with | some n => ((n : Int), true) | none => (0, false))
  | n, i, v, 0, _, _, h => by omega
  | 0, i, v, k + 1, hi, hv, h => by
    obtain rfl : i = l.length := by omega
    rw [object_digits.l0, if_neg (by omega), List.drop_length]
    rfl
  | n + 1, i, v, k + 1, hi, hv, h => by
    have hp : 10 ^ i ≤ 10 ^ 7 := Nat.pow_le_pow_right (by omega) (by omega)
    obtain ⟨b, hb, hd⟩ := drop_cons (l := l) (i := i) (by omega)
    have g1 : wrap64 ((i : Int) + 1) = ((i + 1 : Nat) : Int) := by rw [w64 (by omega) (by omega)]; push_cast; rfl
    rw [object_digits.l0, if_pos (by omega), byt_size, if_pos (by omega), if_pos (by omega), bt_byt l i b hb, g1, hd, num]
    by_cases h1 : b.toNat < 48
    · rw [if_pos (by omega), if_neg (by omega)]
    · rw [if_neg (by omega)]
      by_cases h2 : 57 < b.toNat
      · rw [if_pos (by omega), if_neg (by omega)]
      · rw [if_neg (by omega), if_pos (by omega)]
        have hv7 : v < 10000000 := Nat.lt_of_lt_of_le hv hp
        clear hp
        have e : wrap64 (wrap64 (10 * (v : Int)) + ((b.toNat : Int) - 48) % 256) = ((10 * v + (b.toNat - 48) : Nat) : Int) := by
          clear hv hd hb g1
          have e1 : ((b.toNat : Int) - 48) % 256 = ((b.toNat - 48 : Nat) : Int) := by omega
          rw [e1, w64 (x := 10 * (v : Int)) (by omega) (by omega), w64 (by omega) (by omega)]
          omega
        rw [e]
        exact digits_l0' l hl n (i + 1) (10 * v + (b.toNat - 48)) k (by omega) (by rw [Nat.pow_succ]; omega) (by omega)
theorem bt_head (l : List UInt8) (h : 0 < l.length) : (bt (byt l) 0 = 48) ↔ l[0]? = some 48 := by
  obtain ⟨b, hb, _⟩ := drop_cons (l := l) (i := 0) h
  have := bt_byt l 0 b hb
  simp only [Int.natCast_zero] at this
  rw [show (0 : Int) = ((0 : Nat) : Int) from rfl, bt_byt l 0 b hb, hb]
  constructor
  · intro e
    congr 1
    exact UInt8.toNat_inj.1 (by show b.toNat = 48; omega)
  · intro e
    injection e with e
    subst e
    rfl
theorem digits_prog (l : List UInt8) (hL : l.length < 4294967296) (k : Nat) (hk : 10 ≤ k) : object_digits.f k (byt l) = some (match numOf l with | some n => ((n : Int), true) | none => (0, false)) := by
  obtain ⟨k, rfl⟩ : ∃ k', k = k' + 1 := ⟨k - 1, by omega⟩
  have hbad : ∀ b : Bool, (b = true ↔ Bad l) → object_digits.j0 (k + 1) (byt l) b = some (match numOf l with | some n => ((n : Int), true) | none => (0, false)) := by
    intro b hb
    unfold numOf
    rw [object_digits.j0]
    by_cases hB : Bad l
    · rw [if_pos (hb.2 hB), if_pos hB]
    · rw [if_neg (fun e => hB (hb.1 e)), if_neg hB, byt_size]
      have := digits_l0' l (by unfold Bad at hB; omega) l.length 0 0 k (by omega) (by omega) (by unfold Bad at hB; omega)
      simpa using this
  unfold object_digits.f
  rw [byt_size]
  by_cases h1 : l.length < 1
  · rw [if_pos (by omega)]
    exact hbad true ⟨fun _ => .inl h1, fun _ => rfl⟩
  · rw [if_neg (by omega)]
    by_cases h7 : l.length > 7
    · rw [if_pos (by omega)]
      exact hbad true ⟨fun _ => .inr (.inl h7), fun _ => rfl⟩
    · rw [if_neg (by omega), if_pos (by omega)]
      have hh := bt_head l (by omega)
      by_cases h48 : l[0]? = some 48
      · rw [if_pos (hh.2 h48)]
        exact hbad _ ⟨fun h => .inr (.inr ⟨h48, by rw [decide_eq_true_iff] at h; omega⟩), fun h => by
          rw [decide_eq_true_iff]
          rcases h with h | h | ⟨_, h⟩ <;> omega⟩
      · rw [if_neg (fun e => h48 (hh.1 e))]
        exact hbad false ⟨fun h => Bool.noConfusion h, fun h => by
          rcases h with h | h | ⟨h, _⟩
          · exact absurd h (by omega)
          · exact absurd h (by omega)
          · exact absurd h h48⟩
theorem num_snoc : ∀ (l : List UInt8) (v : Nat) (c : UInt8), num v (l ++ [c]) = (num v l).bind fun n => if 48 ≤ c.toNat ∧ c.toNat ≤ 57 then some (10 * n + (c.toNat - 48)) else none
  | [], v, c => by simp [num]
  | b :: l, v, c => by
    rw [List.cons_append, num, num]
    split
    · exact num_snoc l _ c
    · rfl
theorem dig_range (d : Nat) (h : d < 10) : (UInt8.ofNat (48 + d)).toNat = 48 + d := by rw [UInt8.toNat_ofNat']; omega
theorem num_dec : ∀ n : Nat, num 0 (Lib.decDigits n) = some n := by
  intro n
  induction n using Nat.strongRecOn with
  | ind n ih =>
    rw [Lib.decDigits]
    split
    · rename_i h
      rw [num, dig_range n h, if_pos (by omega)]
      simp [num]
    · rename_i h
      rw [num_snoc, ih (n / 10) (by omega), dig_range _ (by omega)]
      simp only [Option.bind_some]
      rw [if_pos (by omega)]
      congr 1
      omega
theorem dec_head : ∀ n : Nat, n ≠ 0 → (Lib.decDigits n)[0]? ≠ some 48 := by
  intro n
  induction n using Nat.strongRecOn with
  | ind n ih =>
    intro hn
    rw [Lib.decDigits]
    split
    · rename_i h
      intro e
      have e : some (UInt8.ofNat (48 + n)) = some 48 := e
      injection e with e
      have := congrArg UInt8.toNat e
      rw [dig_range n h] at this
      have h48 : (48 : UInt8).toNat = 48 := rfl
      omega
    · rename_i h
      have h0 : 0 < (Lib.decDigits (n / 10)).length := by rw [Lib.decDigits_length]; exact Lib.nDigits_pos _
      rw [List.getElem?_append_left h0]
      exact ih (n / 10) (by omega) (by omega)
theorem dec_plain (n : Nat) : ∀ c ∈ Lib.decDigits n, 48 ≤ c.toNat := by
  induction n using Nat.strongRecOn with
  | ind n ih =>
    rw [Lib.decDigits]
    split
    · rename_i h
      intro c hc
      rw [List.mem_singleton.1 hc, dig_range n h]
      omega
    · rename_i h
      intro c hc
      rcases List.mem_append.1 hc with hc | hc
      · exact ih (n / 10) (by omega) c hc
      · rw [List.mem_singleton.1 hc, dig_range _ (by omega)]
        omega
theorem numOf_dec (n : Nat) (h : n < 10000000) : numOf (Lib.decDigits n) = some n := by
  unfold numOf
  rw [if_neg, num_dec]
  have h1 := Lib.nDigits_pos n
  have h2 := nDig7 n h
  unfold Bad
  rw [Lib.decDigits_length]
  rintro (h | h | ⟨h, h'⟩)
  · omega
  · omega
  · by_cases h0 : n = 0
    · rw [h0, Lib.nDigits_small (by omega)] at h'; omega
    · exact dec_head n h0 h
theorem dec_num : ∀ (m : Nat) (l : List UInt8) (n : Nat), l.length = m + 1 → (l[0]? = some 48 → l.length = 1) → num 0 l = some n → Lib.decDigits n = l := by
  intro m
  induction m with
  | zero =>
    intro l n hl _ hn
    match l, hl with
    | [c], _ =>
      simp only [num] at hn
      split at hn
      · rename_i hc
        injection hn with hn
        subst hn
        rw [Lib.decDigits, dif_pos (by omega)]
        congr 1
        exact UInt8.toNat_inj.1 (by rw [dig_range _ (by omega)]; omega)
      · cases hn
  | succ m ih =>
    intro l n hl h0 hn
    have hne : l ≠ [] := by intro e; rw [e] at hl; simp at hl
    obtain ⟨l', c, rfl⟩ : ∃ l' c, l = l' ++ [c] := ⟨l.dropLast, l.getLast hne, (List.dropLast_concat_getLast hne).symm⟩
    simp at hl
    rw [num_snoc] at hn
    obtain ⟨n', hn', hn⟩ := Option.bind_eq_some_iff.1 hn
    split at hn
    · rename_i hc
      have hn : 10 * n' + (c.toNat - 48) = n := Option.some.inj hn
      have hh : l'[0]? ≠ some 48 := by
        intro e
        have := h0 (by rw [List.getElem?_append_left (by omega)]; exact e)
        simp at this
        rw [this] at hl
        simp at hl
      have hd := ih l' n' (by omega) (fun e => absurd e hh) hn'
      have hz : n' ≠ 0 := by
        rintro rfl
        rw [Lib.decDigits, dif_pos (by omega)] at hd
        exact hh (by rw [← hd]; rfl)
      have hcc : UInt8.ofNat (48 + (c.toNat - 48)) = c := UInt8.toNat_inj.1 (by rw [dig_range (c.toNat - 48) (by omega)]; omega)
      rw [Lib.decDigits, dif_neg (show ¬ n < 10 by omega), show n / 10 = n' by omega, hd, show n % 10 = c.toNat - 48 by omega, hcc]
    · cases hn
theorem dec_numOf {l : List UInt8} {n : Nat} (h : numOf l = some n) : Lib.decDigits n = l := by
  unfold numOf at h
  split at h
  · cases h
  · rename_i hB
    unfold Bad at hB
    refine dec_num (l.length - 1) l n (by omega) (fun e => ?_) h
    rcases Nat.lt_or_ge 1 l.length with h1 | h1
    · exact absurd (.inr (.inr ⟨e, h1⟩)) hB
    · omega

/-! Parse. -/
def judge (x v : List UInt8) (o : Option Nat) : Int × ByteArray × Int :=
  match o with
  | none => (0, byt [], 2)
  | some n => if n > 1048576 then (0, byt [], 4) else if v.length < n then (0, byt [], 3) else if v.length > n then (0, byt [], 2) else (kindOf x, byt v, 0)
noncomputable def parsed (l : List UInt8) : Int × ByteArray × Int :=
  match brk 32 l with
  | none => (0, byt [], 2)
  | some x => match brk 0 x.2 with
    | none => (0, byt [], 2)
    | some y => if kindOf x.1 = 0 then (0, byt [], 2) else judge x.1 y.2 (numOf y.1)
theorem j0_bad (k : Nat) (a : ByteArray) (b c : Int) : object_Parse.j0 (k + 1) a b c true = some (0, byt [], 2) := by rw [object_Parse.j0, if_pos rfl]; rfl
theorem parse_prog (l : List UInt8) (hl : l.length < 4000000000) (k : Nat) (hk : 20 ≤ k) : object_Parse.f k (byt l) = some (parsed l) := by
  obtain ⟨k, rfl⟩ : ∃ k', k = k' + 1 := ⟨k - 1, by omega⟩
  unfold object_Parse.f parsed
  rw [show ((⟨#[32]⟩ : ByteArray)) = byt [32] from rfl, show ((⟨#[0]⟩ : ByteArray)) = byt [0] from rfl, cut_prog 32 l (by omega)]
  cases h1 : brk 32 l with
  | none =>
    simp only [Option.bind_some]
    rw [cut_prog 0 [] (by simp), kind_prog]
    simp only [Option.bind_some, brk]
    rw [digits_prog [] (by simp) _ (by omega)]
    simp only [Option.bind_some]
    rw [if_neg (by simp), j0_bad]
  | some x =>
    obtain ⟨x, y⟩ := x
    obtain ⟨hx, hx0⟩ := brk_some h1
    have hlen := congrArg List.length hx
    simp at hlen
    simp only [Option.bind_some]
    rw [cut_prog 0 y (by omega), kind_prog]
    simp only [Option.bind_some]
    cases h2 : brk 0 y with
    | none =>
      simp only
      rw [digits_prog y (by omega) _ (by omega)]
      simp only [Option.bind_some]
      rw [if_pos trivial, if_neg (by simp), j0_bad]
    | some u =>
      obtain ⟨u, v⟩ := u
      obtain ⟨hu, hu0⟩ := brk_some h2
      have hlen2 := congrArg List.length hu
      simp at hlen2
      simp only
      rw [digits_prog u (by omega) _ (by omega)]
      simp only [Option.bind_some]
      rw [if_pos trivial, if_pos trivial]
      by_cases hk0 : kindOf x = 0
      · rw [if_pos hk0, if_pos hk0, j0_bad]
      · rw [if_neg hk0, if_neg hk0]
        cases numOf u with
        | none => simp only [Bool.not_false]; rw [j0_bad]; rfl
        | some n =>
          simp only [Bool.not_true, judge]
          rw [object_Parse.j0, if_neg (by simp), byt_size]
          by_cases c1 : n > 1048576
          · rw [if_pos (by omega), if_pos c1]; rfl
          · rw [if_neg (by omega), if_neg c1]
            by_cases c2 : v.length < n
            · rw [if_pos (by omega), if_pos c2]; rfl
            · rw [if_neg (by omega), if_neg c2]
              by_cases c3 : v.length > n
              · rw [if_pos (by omega), if_pos c3]; rfl
              · rw [if_neg (by omega), if_neg c3]
end Go.Proofs.YtkbknndlkjodpaaDoor.Plain
