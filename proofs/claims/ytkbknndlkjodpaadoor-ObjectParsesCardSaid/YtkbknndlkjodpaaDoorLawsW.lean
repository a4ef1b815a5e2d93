/- The laws ObjectWords and ObjectParses in plain words: what they tell is true for every input. -/
import Derived.Test.YtkbknndlkjodpaaDoorLive
import Derived.Test.YtkbknndlkjodpaaDoorPRef
import Derived.Test.YtkbknndlkjodpaaDoorPObjx11
namespace Go.Proofs.YtkbknndlkjodpaaDoor.Plain
open Go Go.RowKit Go.Proofs.YtkbknndlkjodpaaDoorW.PrintWords Go.Proofs.YtkbknndlkjodpaaDoorW.PrintMore Go.Proofs.YtkbknndlkjodpaaDoor.PObj Go.Proofs.YtkbknndlkjodpaaDoor.FW Go.Proofs.YtkbknndlkjodpaaDoor.Sha
set_option linter.unusedVariables false
set_option linter.unusedSimpArgs false

theorem words_true (n : Int) (s : ByteArray) : ∃ k, graftagelaw14_ObjectWords.f k n s = some true := by
  obtain ⟨l, rfl⟩ := byt_of s
  refine ⟨1050000, ?_⟩
  unfold graftagelaw14_ObjectWords.f
  rw [lives_at _ (by omega), word_prog, word_ref, kind_prog, kind_ref l _ (by omega)]
  simp only [Option.bind_some]
  rw [if_pos trivial, if_pos trivial, if_pos trivial]
  by_cases hw : word n = []
  · rw [if_pos (by rw [byt_toList]; exact hw)]
  · rw [if_neg (by rw [byt_toList]; exact hw), kind_prog, kind_word n hw]
    simp
theorem parses_true (s : ByteArray) : ∃ k, graftagelaw14_ObjectParses.f k s = some true := by
  obtain ⟨l, rfl⟩ := byt_of s
  refine ⟨2000000, ?_⟩
  unfold graftagelaw14_ObjectParses.f
  rw [byt_size]
  by_cases hl : l.length > 1048596
  · rw [if_pos (by omega), lives_at _ (by omega)]
    rfl
  rw [if_neg (by omega), parse_prog l (by omega) _ (by omega), parse_ref l (by omega) _ (by omega), lives_at _ (by omega)]
  simp only [Option.bind_some]
  rw [if_pos trivial, if_neg (by simp), if_pos trivial]
  by_cases h0 : (parsed l).2.2 = 0
  · obtain ⟨b, h1, h2, h3, h4⟩ := parsed_form l h0
    rw [h1, bytes_prog]
    simp only [Option.bind_some]
    rw [if_pos h0]
    have hb : bytesOf (parsed l).1 b = (byt l, 0) := by
      unfold bytesOf
      rw [if_neg h2, if_neg (by omega), h4]
    rw [hb, if_pos rfl]
    rfl
  · rw [parsed_err l h0, bytes_prog]
    simp only [Option.bind_some]
    rw [if_neg h0]
end Go.Proofs.YtkbknndlkjodpaaDoor.Plain
