/- Layer 14 in plain words: Parse takes back what Bytes tells, and the program lives. -/
import Derived.Test.YtkbknndlkjodpaaDoorParse
namespace Go.Proofs.YtkbknndlkjodpaaDoor.Plain
open Go Go.RowKit Go.Proofs.YtkbknndlkjodpaaDoorW.PrintWords Go.Proofs.YtkbknndlkjodpaaDoorW.PrintMore Go.Proofs.YtkbknndlkjodpaaDoor.PObj Go.Proofs.YtkbknndlkjodpaaDoor.FW Go.Proofs.YtkbknndlkjodpaaDoor.Sha
set_option linter.unusedVariables false
set_option linter.unusedSimpArgs false

theorem byt_of (s : ByteArray) : ∃ l : List UInt8, s = byt l := ⟨s.data.toList, (byt_data s).symm⟩
theorem form_parsed (n : Int) (b : List UInt8) (hw : word n ≠ []) (hb : b.length ≤ 1048576) : parsed (form n b) = (n, byt b, 0) := by
  have h1 : brk 32 (form n b) = some (word n, Lib.decDigits b.length ++ 0 :: b) := brk_app _ (word_plain n).1
  have h2 : brk 0 (Lib.decDigits b.length ++ 0 :: b) = some (Lib.decDigits b.length, b) := brk_app _ (fun h => by
    have := dec_plain _ _ h
    have h0 : (0 : UInt8).toNat = 0 := rfl
    omega)
  have hk := kind_word n hw
  unfold parsed
  rw [h1]
  simp only
  rw [h2]
  simp only
  have h0 : ¬ kindOf (word n) = 0 := by
    rw [hk]
    rintro rfl
    exact hw rfl
  rw [if_neg h0, numOf_dec _ (by omega)]
  simp only [judge]
  rw [if_neg (by omega), if_neg (by omega), if_neg (by omega), hk]
theorem parsed_form (l : List UInt8) : (parsed l).2.2 = 0 → ∃ b, (parsed l).2.1 = byt b ∧ word (parsed l).1 ≠ [] ∧ b.length ≤ 1048576 ∧ form (parsed l).1 b = l := by
  unfold parsed
  cases h1 : brk 32 l with
  | none => intro h; cases h
  | some x =>
    obtain ⟨x, y⟩ := x
    obtain ⟨hx, _⟩ := brk_some h1
    simp only
    cases h2 : brk 0 y with
    | none => intro h; cases h
    | some u =>
      obtain ⟨u, v⟩ := u
      obtain ⟨hu, _⟩ := brk_some h2
      simp only
      split
      · intro h; cases h
      · rename_i hk
        cases h3 : numOf u with
        | none => intro h; cases h
        | some n =>
          simp only [judge]
          split
          · intro h; cases h
          split
          · intro h; cases h
          split
          · intro h; cases h
          intro _
          obtain ⟨w1, w2⟩ := word_kind x hk
          have hd := dec_numOf h3
          refine ⟨v, rfl, by rw [w1]; exact w2, by omega, ?_⟩
          show word (kindOf x) ++ 32 :: (Lib.decDigits v.length ++ 0 :: v) = l
          rw [w1, show v.length = n by omega, hd, hx, hu]
theorem parsed_err (l : List UInt8) : (parsed l).2.2 ≠ 0 → parsed l = (0, byt [], (parsed l).2.2) := by
  unfold parsed
  split
  · intro _; rfl
  split
  · intro _; rfl
  split
  · intro _; rfl
  · unfold judge
    split
    · intro _; rfl
    · split
      · intro _; rfl
      split
      · intro _; rfl
      split
      · intro _; rfl
      · intro h; exact absurd rfl h

/-! The program lives. -/
theorem dec2 : Lib.decDigits 2 = [50] := by rw [Lib.decDigits, dif_pos (by omega)]; rfl
theorem dec1 : Lib.decDigits 1 = [49] := by rw [Lib.decDigits, dif_pos (by omega)]; rfl
theorem word1 : word 1 = [98, 108, 111, 98] := rfl
theorem word2 : word 2 = [116, 114, 101, 101] := rfl
theorem lives_b1 : object_Bytes.f 1 (⟨#[97, 98]⟩ : ByteArray) = some (byt [98, 108, 111, 98, 32, 50, 0, 97, 98], 0) := by
  refine (bytes_prog 1 [97, 98]).trans ?_
  have h : form 1 [97, 98] = [98, 108, 111, 98, 32, 50, 0, 97, 98] := by
    unfold form
    simp only [List.length_cons, List.length_nil, Nat.zero_add, Nat.reduceAdd]
    rw [dec2, word1]
    rfl
  unfold bytesOf
  rw [h, if_neg (by rw [word1]; simp), if_neg (by simp)]
theorem lives_p1 (k : Nat) (hk : 1050000 ≤ k) : object_Parse.f k (⟨#[116, 114, 101, 101, 32, 49, 0, 120]⟩ : ByteArray) = some (2, byt [120], 0) := by
  refine (parse_prog [116, 114, 101, 101, 32, 49, 0, 120] (by simp) k (by omega)).trans ?_
  have h : form 2 [120] = [116, 114, 101, 101, 32, 49, 0, 120] := by
    unfold form
    simp only [List.length_cons, List.length_nil, Nat.zero_add, Nat.reduceAdd]
    rw [dec1, word2]
    rfl
  rw [← h, form_parsed 2 [120] (by rw [word2]; simp) (by simp)]
theorem lives_p2 (k : Nat) (hk : 1050000 ≤ k) : ∃ x, object_Parse.f k (⟨#[98, 108, 111, 98, 32, 50, 0, 120]⟩ : ByteArray) = some x ∧ x.2.2 = 3 := by
  refine ⟨_, parse_prog [98, 108, 111, 98, 32, 50, 0, 120] (by simp) k (by omega), ?_⟩
  unfold parsed
  rw [show brk 32 [98, 108, 111, 98, 32, 50, 0, 120] = some ([98, 108, 111, 98], [50, 0, 120]) by simp [brk]]
  simp only
  rw [show brk 0 [50, 0, 120] = some ([50], [120]) by simp [brk]]
  simp only
  rw [if_neg (by simp [kindOf]), ← dec2, numOf_dec 2 (by omega)]
  simp [judge]
theorem lives_p3 (k : Nat) (hk : 1050000 ≤ k) : ∃ x, object_Parse.f k (⟨#[98, 108, 111, 98, 32, 48, 49, 0, 120]⟩ : ByteArray) = some x ∧ x.2.2 = 2 := by
  refine ⟨_, parse_prog [98, 108, 111, 98, 32, 48, 49, 0, 120] (by simp) k (by omega), ?_⟩
  unfold parsed
  rw [show brk 32 [98, 108, 111, 98, 32, 48, 49, 0, 120] = some ([98, 108, 111, 98], [48, 49, 0, 120]) by simp [brk]]
  simp only
  rw [show brk 0 [48, 49, 0, 120] = some ([48, 49], [120]) by simp [brk]]
  simp only
  rw [if_neg (by simp [kindOf]), show numOf [48, 49] = none by unfold numOf; rw [if_pos (.inr (.inr ⟨rfl, by simp⟩))]]
  rfl
theorem idOf_none : idOf 0 [] = byt [] := by
  have h : bytesOf 0 [] = (byt [], 140) := by unfold bytesOf; rw [if_pos (by rfl)]
  unfold idOf
  rw [h, if_neg (by simp)]
theorem lives_g (k : Nat) (hk : 1050000 ≤ k) : graftagelaw14_lives.g k = some true := by
  obtain ⟨x2, p2, e2⟩ := lives_p2 k hk
  obtain ⟨x3, p3, e3⟩ := lives_p3 k hk
  have h0 := id_prog 0 [] k hk
  have h1 := id_prog 2 [120] k hk
  have h2 := id_ref 2 [120] k hk
  rw [idOf_none] at h0
  generalize idOf 2 [120] = z at h1 h2
  unfold graftagelaw14_lives.g
  rw [lives_b1, lives_p1 k hk, p2, p3]
  simp only [Option.bind_some]
  rw [if_pos (by rw [byt_toList]), if_pos trivial, if_pos (by rw [byt_toList]; rfl), if_pos trivial, if_pos e2, if_pos e3, word_prog]
  simp only [Option.bind_some]
  rw [if_pos (by rw [byt_toList]; rfl), show ((⟨#[116, 97, 103]⟩ : ByteArray)) = byt [116, 97, 103] from rfl, kind_prog]
  simp only [Option.bind_some]
  rw [if_pos (by rfl), show ((⟨#[120]⟩ : ByteArray)) = byt [120] from rfl, kind_prog]
  simp only [Option.bind_some]
  rw [if_pos (by rfl), show ((⟨#[]⟩ : ByteArray)) = byt [] from rfl, h0]
  simp only [Option.bind_some]
  have hs : object_Same.f 2 (byt [120]) 2 (byt [120]) = some true := by unfold object_Same.f; simp
  rw [if_pos (byt_toList []), h1, h2, Option.bind_some, Option.bind_some, if_pos rfl, hs, Option.bind_some]
theorem lives_at (k : Nat) (hk : 1050000 ≤ k) : graftagelaw14_lives.f k = some true := by
  unfold graftagelaw14_lives.f
  rw [if_pos (lives_g k hk)]

end Go.Proofs.YtkbknndlkjodpaaDoor.Plain
