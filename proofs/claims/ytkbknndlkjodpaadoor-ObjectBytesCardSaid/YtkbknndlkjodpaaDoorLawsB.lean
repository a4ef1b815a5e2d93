/- The law ObjectBytes in plain words: what it tells is true for every input. -/
import Derived.Test.YtkbknndlkjodpaaDoorLive
import Derived.Test.YtkbknndlkjodpaaDoorPObjx9
namespace Go.Proofs.YtkbknndlkjodpaaDoor.Plain
open Go Go.RowKit Go.Proofs.YtkbknndlkjodpaaDoorW.PrintWords Go.Proofs.YtkbknndlkjodpaaDoorW.PrintMore Go.Proofs.YtkbknndlkjodpaaDoor.PObj Go.Proofs.YtkbknndlkjodpaaDoor.FW Go.Proofs.YtkbknndlkjodpaaDoor.Sha
set_option linter.unusedVariables false
set_option linter.unusedSimpArgs false

theorem j1_true (k : Nat) (hk : 2000000 ≤ k) (n : Int) (b : List UInt8) (m : Int) (c : List UInt8) (hb : b.length ≤ 1048586) (hc : c.length ≤ 1048586) :
    graftagelaw14_ObjectBytes.j1 k (bytesOf n b).1 (bytesOf n b).2 false n (byt b) m (byt c) = some true := by
  obtain ⟨k, rfl⟩ : ∃ k', k = k' + 1 := ⟨k - 1, by omega⟩
  rw [graftagelaw14_ObjectBytes.j1, if_neg (by simp)]
  by_cases hw : word n = []
  · have : bytesOf n b = (byt [], 140) := by unfold bytesOf; rw [if_pos hw]
    rw [this, if_neg (by decide)]
  by_cases hbig : b.length > 1048576
  · have : bytesOf n b = (byt [], 4) := by unfold bytesOf; rw [if_neg hw, if_pos hbig]
    rw [this, if_neg (by decide)]
  have e : bytesOf n b = (byt (form n b), 0) := by unfold bytesOf; rw [if_neg hw, if_neg hbig]
  have hf := form_size n b (by omega)
  rw [e, if_pos rfl, parse_prog _ (by omega) _ (by omega), form_parsed n b hw (by omega), bytes_prog]
  simp only [Option.bind_some]
  rw [if_pos (by simp), if_pos trivial]
  by_cases h0 : (bytesOf m c).2 = 0
  · rw [if_pos h0]
    have hm : bytesOf m c = (byt (form m c), 0) ∧ word m ≠ [] ∧ c.length ≤ 1048576 := by
      unfold bytesOf at h0 ⊢
      by_cases h1 : word m = []
      · rw [if_pos h1] at h0; exact absurd h0 (by decide)
      · rw [if_neg h1] at h0 ⊢
        by_cases h2 : c.length > 1048576
        · rw [if_pos h2] at h0; exact absurd h0 (by decide)
        · rw [if_neg h2]; exact ⟨rfl, h1, by omega⟩
    obtain ⟨hm, h1, h2⟩ := hm
    rw [hm]
    simp only [byt_toList]
    congr 1
    by_cases he : form n b = form m c
    · have p1 := form_parsed n b hw (by omega)
      have p2 := form_parsed m c h1 h2
      rw [he, p2] at p1
      injection p1 with a1 a2
      injection a2 with a2 _
      have a3 := byt_inj a2
      subst a1 a3
      simp
    · have hne : ¬ (n = m ∧ b = c) := by rintro ⟨rfl, rfl⟩; exact he rfl
      rw [show (form n b == form m c) = false from beq_eq_false_iff_ne.mpr he]
      by_cases h3 : n = m
      · have h4 : ¬ b = c := fun h => hne ⟨h3, h⟩
        simp [h3, h4]
      · simp [h3]
  · rw [if_neg h0]
theorem bytes_true (n : Int) (s : ByteArray) (m : Int) (t : ByteArray) : ∃ k, graftagelaw14_ObjectBytes.f k n s m t = some true := by
  obtain ⟨b, rfl⟩ := byt_of s
  obtain ⟨c, rfl⟩ := byt_of t
  refine ⟨3000000, ?_⟩
  unfold graftagelaw14_ObjectBytes.f
  rw [byt_size, byt_size]
  have hbad : graftagelaw14_ObjectBytes.j0 3000000 true n (byt b) m (byt c) = some true := by
    rw [show (3000000 : Nat) = 2999999 + 1 from rfl, graftagelaw14_ObjectBytes.j0, if_pos rfl, lives_at _ (by omega)]
    rfl
  by_cases hb : b.length > 1048586
  · rw [if_pos (by omega)]
    exact hbad
  rw [if_neg (by omega)]
  by_cases hc : c.length > 1048586
  · rw [show decide ((c.length : Int) > 1048586) = true from decide_eq_true (by omega)]
    exact hbad
  rw [show decide ((c.length : Int) > 1048586) = false from decide_eq_false (by omega)]
  rw [show (3000000 : Nat) = 2999999 + 1 from rfl, graftagelaw14_ObjectBytes.j0, if_neg (by simp), bytes_prog, bytes_ref n b _ (by omega), lives_at _ (by omega)]
  simp only [Option.bind_some]
  rw [if_pos trivial, if_pos trivial, if_pos trivial, id_prog n b _ (by omega), id_ref n b _ (by omega)]
  simp only [Option.bind_some]
  rw [if_pos trivial]
  simp only [object_Same.f, Option.bind_some, bne_self_eq_false]
  exact j1_true _ (by omega) n b m c (by omega) (by omega)
end Go.Proofs.YtkbknndlkjodpaaDoor.Plain
