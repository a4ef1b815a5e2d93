/- What strings.Cut, strconv.Itoa and ident.Digest tell, as the printed walks ask it, where the package-level variables hold what is laid. -/
import Derived.Test.YtkbknndlkjodpaaDoorShelf
import Derived.Test.YtkbknndlkjodpaaDoorShaDig
import Derived.Test.YtkbknndlkjodpaaDoorFWords
namespace Go.Proofs.YtkbknndlkjodpaaDoor.FW
open Go Go.Sort Go.RowKit Go.Proofs.YtkbknndlkjodpaaDoorW.PrintWords Go.Proofs.YtkbknndlkjodpaaDoorW.PrintMore Go.Proofs.YtkbknndlkjodpaaDoor.Sha

/-- What the package-level variables hold. -/
structure Glob (w : World) : Prop where
  pow : Lib.TabIs Tryd.prog w "internal/strconv.uint64pow10" .u64 Lib.pow10Tab
  tab : Lib.TabIs Tryd.prog w "graftage/ident.table" .u32 ktab
  most : ∃ m, w.cell? ⟨1, 0, none⟩ = some (.int .i64 m)
theorem var_below {w w1 : World} {n : String} {k : IntKind} {zs : List Int} {g : Nat} (hg : Tryd.prog.globalNamed n = some g) (hT : Lib.TabIs Tryd.prog w n k zs) (hb : Below w.heap.size w w1) : Lib.TabIs Tryd.prog w1 n k zs := by
  unfold Lib.TabIs at hT ⊢
  unfold World.var? at hT ⊢
  rw [hg] at hT ⊢
  simp only [Option.bind_some] at hT ⊢
  have hlt : g < w.heap.size := by
    rcases Nat.lt_or_ge g w.heap.size with h | h
    · exact h
    · rw [Array.getElem?_eq_none h] at hT; simp at hT
  rw [hb.block _ hlt]
  exact hT
theorem gPow : Tryd.prog.globalNamed "internal/strconv.uint64pow10" = some 2 := by kernel_rfl
theorem Glob.below {w w1 : World} (h : Glob w) (hb : Below w.heap.size w w1) : Glob w1 :=
  ⟨var_below gPow h.pow hb, var_below gTable h.tab hb, by
    obtain ⟨m, hm⟩ := h.most
    exact ⟨m, (hb.cell (World.block_lt_of_cell? w _ hm)).trans hm⟩⟩

theorem below_grow {B : Nat} {w w1 : World} (h : Below B w w1) (os : Array Obj) (hB : B ≤ w1.heap.size := by exact Nat.le_refl _) : Below B w (grow w1 os) :=
  ⟨h.os, h.tape, h.output, Nat.le_trans h.size (by simp [grow]), fun i hi => by
    rw [← h.block i hi]
    simp only [grow]
    rw [Array.getElem?_append_left (by omega)]⟩

/-! ### strings.Cut -/
def strings_Cut.f (a0 : ByteArray) (a1 : ByteArray) : Option (ByteArray × ByteArray × Bool) :=
  if a0.size < 4294967281 then some (⟨(Lib.cut a0.data.toList a1.data.toList).1.toArray⟩, ⟨(Lib.cut a0.data.toList a1.data.toList).2.1.toArray⟩, (Lib.cut a0.data.toList a1.data.toList).2.2) else none
theorem strings_Cut.calls (a0 : ByteArray) (a1 : ByteArray) (r1 : ByteArray) (r2 : ByteArray) (r3 : Bool) (w : World) (hG : Glob w) (h : strings_Cut.f a0 a1 = some (r1, r2, r3)) :
    Calls Tryd.prog 23 #[.string a0, .string a1] w fun e w' => e = .returned (.tuple #[.string r1, .string r2, .bool r3]) ∧ Below w.heap.size w w' := by
  unfold strings_Cut.f at h
  split at h
  · rename_i hs
    injection h with h
    injection h with h1 h
    injection h with h2 h3
    subst h1 h2 h3
    obtain ⟨m, hm⟩ := hG.most
    exact (Tryd.strings_Cut a0 a1 m w hs hm).mono fun e w' ⟨he, n, hw⟩ => ⟨he, by rw [hw]; exact below_drewN (Below.refl _ _) n⟩
  · cases h

/-! ### strconv.Itoa -/
def strconv_Itoa.f (a0 : Int) : Option ByteArray :=
  if -9223372036854775808 ≤ a0 ∧ a0 ≤ 9223372036854775807 then some ⟨(Lib.itoa a0).toArray⟩ else none
theorem strconv_Itoa.calls (a0 : Int) (r : ByteArray) (w : World) (hG : Glob w) (h : strconv_Itoa.f a0 = some r) :
    Calls Tryd.prog 18 #[.int .i64 a0] w fun e w' => e = .returned (.string r) ∧ Below w.heap.size w w' := by
  unfold strconv_Itoa.f at h
  split at h
  · rename_i hs
    injection h with h
    subst h
    exact (Tryd.strconv_Itoa a0 hs.1 hs.2 w hG.pow).mono fun e w' ⟨he, k, os, hw⟩ => ⟨he, by rw [hw]; exact below_grow (below_drewN (Below.refl _ _) k) os⟩
  · cases h

/-! ### ident.Digest -/
def ident_Digest.f (a0 : ByteArray) : Option ByteArray := if a0.size ≤ 140737488351232 then some (digest a0) else none
theorem ident_Digest.calls (a0 : ByteArray) (r : ByteArray) (w : World) (hG : Glob w) (h : ident_Digest.f a0 = some r) :
    Calls Tryd.prog 30 #[.string a0] w fun e w' => e = .returned (.string r) ∧ Below w.heap.size w w' := by
  unfold ident_Digest.f at h
  split at h
  · rename_i hs
    injection h with h
    subst h
    exact digest_calls a0 w hs hG.tab
  · cases h
end Go.Proofs.YtkbknndlkjodpaaDoor.FW
