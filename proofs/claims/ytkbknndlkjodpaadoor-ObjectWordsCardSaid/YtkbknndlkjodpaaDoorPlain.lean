/- Layer 14 in plain words: numerals, words, kinds, the bytes and the id that the program's and the reference's functions tell are the same. -/
import Derived.Test.YtkbknndlkjodpaaDoorShaSame
import Derived.Test.YtkbknndlkjodpaaDoorPObjx8
namespace Go.Proofs.YtkbknndlkjodpaaDoor.Plain
open Go Go.RowKit Go.Proofs.YtkbknndlkjodpaaDoorW.PrintWords Go.Proofs.YtkbknndlkjodpaaDoorW.PrintMore Go.Proofs.YtkbknndlkjodpaaDoor.PObj Go.Proofs.YtkbknndlkjodpaaDoor.FW Go.Proofs.YtkbknndlkjodpaaDoor.Sha
set_option linter.unusedVariables false
set_option linter.unusedSimpArgs false

def byt (l : List UInt8) : ByteArray := ⟨l.toArray⟩
theorem byt_data (s : ByteArray) : byt s.data.toList = s := by apply ByteArray.ext; simp [byt]
theorem byt_size (l : List UInt8) : (byt l).size = l.length := by simp [byt, ByteArray.size]
theorem byt_append (l m : List UInt8) : byt l ++ byt m = byt (l ++ m) := by apply ByteArray.ext; simp [byt]
theorem byt_toList (l : List UInt8) : (byt l).toList = l := by rw [ByteArray.toList_eq]; simp [byt]
theorem byt_inj {l m : List UInt8} (h : byt l = byt m) : l = m := by simpa [byt] using congrArg (fun s : ByteArray => s.data.toList) h
theorem byt_extract (l : List UInt8) (a b : Nat) : (byt l).extract a b = byt ((l.drop a).take (b - a)) := by
  apply ByteArray.ext
  apply Array.ext'
  simp [byt, Array.toList_extract, List.extract_eq_take_drop]
theorem bt_byt (l : List UInt8) (i : Nat) (c : UInt8) (h : l[i]? = some c) : bt (byt l) (i : Int) = (c.toNat : Int) := by
  obtain ⟨hl, hc⟩ := List.getElem?_eq_some_iff.1 h
  unfold bt
  rw [dif_pos (by rw [byt_size]; exact hl)]
  have : (byt l)[(i : Int).toNat]'(by rw [byt_size]; exact hl) = c := by rw [← hc]; rfl
  rw [this]

/-! The numeral. -/
def ten (n : Nat) : ByteArray := byt (Lib.decDigits n)
theorem digit_one (n : Nat) : strOfNums [wrap64 (48 + mx (Int.tmod (n : Int) 10) (wrap64 (-(Int.tmod (n : Int) 10)))) % 256] = byt [UInt8.ofNat (48 + n % 10)] := by
  have e : wrap64 (48 + mx (Int.tmod (n : Int) 10) (wrap64 (-(Int.tmod (n : Int) 10)))) % 256 = ((48 + n % 10 : Nat) : Int) := by
    rw [Int.tmod_eq_emod_of_nonneg (by omega)]
    unfold mx wrap64
    split <;> omega
  rw [e]
  rfl
theorem digits_l0 (x0 : Int) (hx : 0 ≤ x0) : ∀ (k n : Nat) (acc : ByteArray), Lib.nDigits n + 1 ≤ k → n < 1000000000 → acc.size + Lib.nDigits n ≤ 1000 → n ≠ 0 ∨ acc = byt [] →
    graftageref14_Digits.l0 k x0 acc (n : Int) = some (ten n ++ acc)
  | 0, n, acc, h, _, _, _ => by omega
  | k + 1, n, acc, hk, hn, ha, hz => by
    have hd : wrap64 (Int.tdiv (n : Int) 10) = ((n / 10 : Nat) : Int) := by
      rw [Int.tdiv_eq_ediv_of_nonneg (by omega)]
      unfold wrap64
      omega
    have step : graftageref14_Digits.l0 (k + 1) x0 acc (n : Int) = graftageref14_Digits.l0 k x0 (byt [UInt8.ofNat (48 + n % 10)] ++ acc) ((n / 10 : Nat) : Int) := by
      have hs : (byt [UInt8.ofNat (48 + n % 10)]).size + acc.size ≤ 9223372036854775807 := by rw [byt_size]; simp; omega
      rw [graftageref14_Digits.l0]
      simp only [Option.bind_some]
      rw [digit_one, hd]
      by_cases h0 : n = 0
      · obtain rfl : acc = byt [] := by rcases hz with h | h; exact absurd h0 h; exact h
        rw [if_pos (by omega), if_pos (by rw [byt_toList]), if_pos hs]
      · rw [if_neg (by omega), if_pos hs]
    rw [step]
    by_cases h10 : n < 10
    · have hq : n / 10 = 0 := by omega
      have hnd := Lib.nDigits_small h10
      obtain ⟨k, rfl⟩ : ∃ k', k = k' + 1 := ⟨k - 1, by omega⟩
      rw [hq, graftageref14_Digits.l0, if_pos (by rfl), if_neg (by
        intro h
        have h2 := congrArg List.length h
        rw [ByteArray.toList_eq] at h2
        simp [byt] at h2), if_neg (by omega)]
      rw [ten, Lib.decDigits_one h10, show n % 10 = n by omega]
    · have hnd := Lib.nDigits_big h10
      have hp := Lib.nDigits_pos (n / 10)
      have ih := digits_l0 x0 hx k (n / 10) (byt [UInt8.ofNat (48 + n % 10)] ++ acc) (by omega) (by omega) (by rw [ByteArray.size_append, byt_size]; simp; omega) (.inl (by omega))
      rw [ih]
      congr 1
      rw [ten, ten, ← ByteArray.append_assoc, byt_append]
      congr 2
      conv => rhs; rw [Lib.decDigits, dif_neg h10]
theorem nDig7 (n : Nat) (h : n < 10000000) : Lib.nDigits n ≤ 7 := by
  rcases Nat.lt_or_ge 7 (Lib.nDigits n) with h7 | h7
  · exfalso
    have key : ∀ k n : Nat, k < Lib.nDigits n → 0 < k → 10 ^ k ≤ n := by
      intro k
      induction k with
      | zero => intro n _ h; omega
      | succ k ih =>
        intro n hk _
        by_cases h10 : n < 10
        · rw [Lib.nDigits_small h10] at hk; omega
        · rw [Lib.nDigits_big h10] at hk
          rcases Nat.eq_zero_or_pos k with rfl | hk0
          · simp; omega
          · have := ih (n / 10) (by omega) hk0
            rw [Nat.pow_succ]
            omega
    have := key 7 n h7 (by omega)
    omega
  · exact h7
theorem digits_eq (n : Nat) (h : n < 10000000) (k : Nat) (hk : 8 ≤ k) : graftageref14_Digits.f k (n : Int) = some (ten n) := by
  have := nDig7 n h
  unfold graftageref14_Digits.f
  have e := digits_l0 n (by omega) k n (byt []) (by omega) (by omega) (by rw [byt_size]; simp; omega) (.inr rfl)
  refine Eq.trans e ?_
  rw [ten, byt_append, List.append_nil]
theorem itoa_eq (n : Nat) (h : n < 10000000) : strconv_Itoa.f (n : Int) = some (ten n) := by
  unfold strconv_Itoa.f
  rw [if_pos (by omega)]
  unfold Lib.itoa
  rw [if_neg (by omega)]
  rfl
theorem ten_size (n : Nat) (h : n < 10000000) : (ten n).size ≤ 7 := by
  rw [ten, byt_size, Lib.decDigits_length]
  exact nDig7 n h

/-! Words and kinds. -/
def word (n : Int) : List UInt8 := if n = 1 then [98, 108, 111, 98] else if n = 2 then [116, 114, 101, 101] else if n = 3 then [99, 111, 109, 109, 105, 116] else if n = 4 then [116, 97, 103] else []
def kindOf (l : List UInt8) : Int := if [98, 108, 111, 98] = l then 1 else if [116, 114, 101, 101] = l then 2 else if [99, 111, 109, 109, 105, 116] = l then 3 else if [116, 97, 103] = l then 4 else 0
theorem word_prog (n : Int) : object_Word.f n = some (byt (word n)) := by
  unfold object_Word.f word
  repeat (split; rfl)
  rfl
theorem word_ref (n : Int) : graftageref14_Word.f n = some (byt (word n)) := by
  unfold graftageref14_Word.f word
  repeat (split; rfl)
  rfl
theorem kind_prog (l : List UInt8) : object_Kind.f (byt l) = some (kindOf l) := by
  unfold object_Kind.f kindOf
  rw [byt_toList]
  repeat (split; rfl)
  rfl
theorem word_size (n : Int) : (word n).length ≤ 6 := by
  unfold word
  repeat (split; simp)
  simp
theorem kind_word (n : Int) (h : word n ≠ []) : kindOf (word n) = n := by
  unfold word at h ⊢
  split at h
  · subst_vars; rfl
  split at h
  · subst_vars; rfl
  split at h
  · subst_vars; rfl
  split at h
  · subst_vars; rfl
  · exact absurd rfl h
theorem word_kind (l : List UInt8) (h : kindOf l ≠ 0) : word (kindOf l) = l ∧ l ≠ [] := by
  unfold kindOf at h ⊢
  split at h
  · subst_vars; exact ⟨rfl, by simp⟩
  split at h
  · subst_vars; exact ⟨rfl, by simp⟩
  split at h
  · subst_vars; exact ⟨rfl, by simp⟩
  split at h
  · subst_vars; exact ⟨rfl, by simp⟩
  · exact absurd rfl h
theorem word_plain (n : Int) : (32 : UInt8) ∉ word n ∧ (0 : UInt8) ∉ word n := by
  unfold word
  repeat (split; decide)
  decide

/-! Bytes and Id. -/
def form (n : Int) (b : List UInt8) : List UInt8 := word n ++ 32 :: (Lib.decDigits b.length ++ 0 :: b)
def bytesOf (n : Int) (b : List UInt8) : ByteArray × Int := if word n = [] then (byt [], 140) else if b.length > 1048576 then (byt [], 4) else (byt (form n b), 0)
theorem form_eq (n : Int) (b : List UInt8) : (((byt (word n) ++ (⟨#[32]⟩ : ByteArray)) ++ ten b.length) ++ (⟨#[0]⟩ : ByteArray)) ++ byt b = byt (form n b) := by
  show (((byt (word n) ++ byt [32]) ++ byt (Lib.decDigits b.length)) ++ byt [0]) ++ byt b = byt (form n b)
  rw [byt_append, byt_append, byt_append, byt_append]
  simp [form]
theorem bytes_prog (n : Int) (b : List UInt8) : object_Bytes.f n (byt b) = some (bytesOf n b) := by
  unfold object_Bytes.f bytesOf
  rw [word_prog]
  simp only [Option.bind_some]
  rw [byt_toList, byt_size]
  by_cases hw : word n = []
  · rw [if_pos hw, if_pos hw]; rfl
  rw [if_neg hw, if_neg hw]
  by_cases hb : b.length > 1048576
  · rw [if_pos (by omega), if_pos hb]; rfl
  have ht := ten_size b.length (by omega)
  have hs := word_size n
  rw [if_neg (by omega), if_neg hb, itoa_eq _ (by omega)]
  simp only [Option.bind_some]
  rw [byt_size, if_pos (by omega), if_pos (by omega), if_pos (by omega), if_pos (by omega), form_eq]
theorem bytes_ref (n : Int) (b : List UInt8) (k : Nat) (hk : 8 ≤ k) : graftageref14_Bytes.f k n (byt b) = some (bytesOf n b) := by
  unfold graftageref14_Bytes.f graftageref14_Check.f bytesOf
  rw [word_ref]
  simp only [Option.bind_some]
  rw [byt_toList, byt_size]
  by_cases hw : word n = []
  · rw [if_pos hw, if_pos hw]; rfl
  rw [if_neg hw, if_neg hw]
  by_cases hb : b.length > 1048576
  · rw [if_pos (by omega), if_pos hb]; rfl
  have ht := ten_size b.length (by omega)
  have hs := word_size n
  rw [if_neg (by omega), if_neg hb]
  simp only [Option.bind_some]
  rw [if_pos trivial, digits_eq _ (by omega) k hk]
  simp only [Option.bind_some]
  rw [byt_size, if_pos (by omega), if_pos (by omega), if_pos (by omega), if_pos (by omega), form_eq]
theorem form_size (n : Int) (b : List UInt8) (h : b.length ≤ 1048576) : (form n b).length ≤ 1048700 := by
  have ht := ten_size b.length (by omega)
  rw [ten, byt_size] at ht
  have hs := word_size n
  simp only [form, List.length_append, List.length_cons]
  omega
def idOf (n : Int) (b : List UInt8) : ByteArray := if (bytesOf n b).2 = 0 then nameOf (bytesOf n b).1 else byt []
theorem bytesOf_size (n : Int) (b : List UInt8) : (bytesOf n b).1.size ≤ 1048700 := by
  unfold bytesOf
  split
  · decide
  split
  · decide
  · rw [byt_size]; exact form_size n b (by omega)
theorem id_prog (n : Int) (b : List UInt8) (k : Nat) (hk : 1050000 ≤ k) : object_Id.f k n (byt b) = some (idOf n b) := by
  unfold object_Id.f idOf
  rw [bytes_prog]
  simp only [Option.bind_some]
  have := bytesOf_size n b
  split
  · rw [of_prog _ (by omega) k (by omega)]; rfl
  · rfl
theorem id_ref (n : Int) (b : List UInt8) (k : Nat) (hk : 1050000 ≤ k) : graftageref14_Id.f k n (byt b) = some (idOf n b) := by
  unfold graftageref14_Id.f idOf
  rw [bytes_ref n b k (by omega)]
  simp only [Option.bind_some]
  have := bytesOf_size n b
  split
  · rw [of_ref _ (by omega) k (by omega)]; rfl
  · rfl
end Go.Proofs.YtkbknndlkjodpaaDoor.Plain
