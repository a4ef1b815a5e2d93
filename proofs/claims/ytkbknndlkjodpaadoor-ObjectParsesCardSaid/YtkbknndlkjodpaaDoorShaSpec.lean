/- What one block of the digest computes, in plain words, and the facts on worlds that its walk uses. -/
import Derived.Test.YtkbknndlkjodpaaDoorShaTurn
import Derived.Laws.AppendOwn
import Derived.Test.YtkbknndlkjodpaaDoorWWords
namespace Go.Proofs.YtkbknndlkjodpaaDoor.Sha
open Go Go.RowKit Go.Proofs.YtkbknndlkjodpaaDoorW.PrintWords

/-- Four bytes as a number. -/
def W4 (b : ByteArray) (k : Nat) : Int := bits .or .u32 (bits .or .u32 (bits .or .u32 (bt b (4 * ↑k) % 4294967296 * 16777216 % 4294967296) (bt b (4 * ↑k + 1) % 4294967296 * 65536 % 4294967296)) (bt b (4 * ↑k + 2) % 4294967296 * 256 % 4294967296)) (bt b (4 * ↑k + 3) % 4294967296)
/-- The next number of the schedule. -/
def F (y w7 x w16 : Int) : Int := (bits .xor .u32 (bits .xor .u32 (T y 17) (T y 19)) (y / 1024) + w7 + bits .xor .u32 (bits .xor .u32 (T x 7) (T x 18)) (x / 8) + w16) % 4294967296
/-- The schedule. -/
def sch (b : ByteArray) (t : Nat) : Int := if h : t < 16 then W4 b t else F (sch b (t - 2)) (sch b (t - 7)) (sch b (t - 15)) (sch b (t - 16))
termination_by t
/-- One round's x and y. -/
def X (V : Nat → Int) (k w : Int) : Int := V 7 + bits .xor .u32 (bits .xor .u32 (T (V 4) 6) (T (V 4) 11)) (T (V 4) 25) + bits .xor .u32 (bits .and .u32 (V 5) (V 4)) (bits .andNot .u32 (V 6) (V 4)) + k + w
def Y (V : Nat → Int) : Int := bits .xor .u32 (bits .xor .u32 (T (V 0) 2) (T (V 0) 13)) (T (V 0) 22) + bits .xor .u32 (bits .xor .u32 (bits .and .u32 (V 0) (V 1)) (bits .and .u32 (V 0) (V 2))) (bits .and .u32 (V 1) (V 2))
def of8 (a0 a1 a2 a3 a4 a5 a6 a7 : Int) : Nat → Int
  | 0 => a0
  | 1 => a1
  | 2 => a2
  | 3 => a3
  | 4 => a4
  | 5 => a5
  | 6 => a6
  | 7 => a7
  | _ => 0
/-- One round. -/
def rnd (V : Nat → Int) (k w : Int) : Nat → Int := of8 ((X V k w + Y V) % 4294967296) (V 0) (V 1) (V 2) ((V 3 + X V k w) % 4294967296) (V 4) (V 5) (V 6)
/-- The first t rounds. -/
def rnds (K : List Int) (b : ByteArray) (V : Nat → Int) : Nat → Nat → Int
  | 0 => V
  | t + 1 => rnd (rnds K b V t) (K.getD t 0) (sch b t)

/-- block g holds the digest's 72 numbers. -/
structure Sum (w : World) (g : Nat) (C : Nat → Int) : Prop where
  cell : ∀ j : Nat, j < 72 → w.cell? ⟨g, j, none⟩ = some (.int .u32 (C j))
  free : ∀ j : Nat, j < 72 → w.frozen? ⟨g, j, none⟩ = false
def upd (C : Nat → Int) (j : Nat) (v : Int) : Nat → Int := fun i => if i = j then v else C i
theorem Sum.set {w : World} {g : Nat} {C : Nat → Int} (h : Sum w g C) (j : Nat) (v : Int) : Sum (w.setCell ⟨g, j, none⟩ (.int .u32 v)) g (upd C j v) := by
  refine ⟨fun i hi => ?_, fun i hi => ?_⟩
  · by_cases e : i = j
    · subst e
      rw [World.cell?_setCell_same _ _ _ (h.cell i hi)]
      simp [upd]
    · rw [World.cell?_setCell_other]
      · rw [h.cell i hi]
        simp [upd, e]
      · intro hh
        injection hh with _ h2
        exact e (by omega)
  · rw [World.frozen?_setCell]; exact h.free i hi
theorem Sum.far {w : World} {g : Nat} {C : Nat → Int} (h : Sum w g C) {p : Addr} (hp : p.block ≠ g) (v : Value) : Sum (w.setCell p v) g C := by
  refine ⟨fun i hi => ?_, fun i hi => ?_⟩
  · rw [World.cell?_setCell_other]
    · exact h.cell i hi
    · rintro rfl; exact hp rfl
  · rw [World.frozen?_setCell]; exact h.free i hi
theorem Sum.alloc {w : World} {g : Nat} {C : Nat → Int} (h : Sum w g C) (o : Obj) : Sum (w.alloc o) g C := by
  have hlt : g < w.heap.size := World.block_lt_of_cell? w _ (h.cell 0 (by omega))
  refine ⟨fun i hi => ?_, fun i hi => ?_⟩
  · rw [World.cell?_alloc_lt _ _ _ hlt]; exact h.cell i hi
  · rw [World.frozen?_alloc_old _ _ _ (Nat.ne_of_lt hlt)]; exact h.free i hi
theorem Sum.drew {w : World} {g : Nat} {C : Nat → Int} (h : Sum w g C) : Sum w.drew g C := ⟨h.cell, h.free⟩
theorem Sum.drewN {w : World} {g : Nat} {C : Nat → Int} (h : Sum w g C) (n : Nat) : Sum (w.drewN n) g C := ⟨h.cell, h.free⟩
theorem only_drew {a w : World} {row : Option Nat} (h : a.grownBy w row) : a.grownBy w.drew row := ⟨h.os, h.tape, h.output, h.size, h.block⟩
theorem only_drewN {a w : World} {row : Option Nat} (h : a.grownBy w row) (n : Nat) : a.grownBy (w.drewN n) row := ⟨h.os, h.tape, h.output, h.size, h.block⟩
theorem only_alloc {a w : World} {row : Option Nat} (h : a.grownBy w row) (o : Obj) : a.grownBy (w.alloc o) row :=
  ⟨h.os, h.tape, h.output, Nat.le_trans h.size (by simp), fun i hi hne => (Below.heap_alloc w o i (Nat.lt_of_lt_of_le hi h.size)).trans (h.block i hi hne)⟩
theorem only_setCell {a w : World} {g : Nat} (h : a.grownBy w (some g)) {p : Addr} (hp : p.block = g ∨ a.heap.size ≤ p.block) (u : Value) : a.grownBy (w.setCell p u) (some g) :=
  ⟨h.os, h.tape, h.output, by simpa [World.setCell] using h.size, fun i hi hne => (Below.heap_setCell w p u i (by
    rintro rfl
    rcases hp with hp | hp
    · exact hne (by rw [hp])
    · omega)).trans (h.block i hi hne)⟩
theorem only_refl (w : World) (row : Option Nat) : w.grownBy w row := ⟨rfl, rfl, rfl, Nat.le_refl _, fun _ _ _ => rfl⟩

/-- block g holds eight numbers. -/
structure Vec (w : World) (g : Nat) (V : Nat → Int) : Prop where
  cell : ∀ j : Nat, j < 8 → w.cell? ⟨g, j, none⟩ = some (.int .u32 (V j))
  free : ∀ j : Nat, j < 8 → w.frozen? ⟨g, j, none⟩ = false
theorem Vec.lit (w : World) (V : Nat → Int) (t : TypeId) : Vec (w.alloc (.cells #[.int .u32 (V 0), .int .u32 (V 1), .int .u32 (V 2), .int .u32 (V 3), .int .u32 (V 4), .int .u32 (V 5), .int .u32 (V 6), .int .u32 (V 7)] t)) w.heap.size V := by
  refine ⟨fun j hj => ?_, fun j hj => World.frozen?_alloc_new _ _ _ _⟩
  rw [World.cell?_alloc_new]
  match j, hj with
  | 0, _ => rfl
  | 1, _ => rfl
  | 2, _ => rfl
  | 3, _ => rfl
  | 4, _ => rfl
  | 5, _ => rfl
  | 6, _ => rfl
  | 7, _ => rfl
theorem Vec.drew {w : World} {g : Nat} {V : Nat → Int} (h : Vec w g V) : Vec w.drew g V := ⟨h.cell, h.free⟩
theorem Vec.far {w : World} {g : Nat} {V : Nat → Int} (h : Vec w g V) {p : Addr} (hp : p.block ≠ g) (v : Value) : Vec (w.setCell p v) g V := by
  refine ⟨fun i hi => ?_, fun i hi => ?_⟩
  · rw [World.cell?_setCell_other]
    · exact h.cell i hi
    · rintro rfl; exact hp rfl
  · rw [World.frozen?_setCell]; exact h.free i hi
theorem Vec.set {w : World} {g : Nat} {V : Nat → Int} (h : Vec w g V) (j : Nat) (v : Int) : Vec (w.setCell ⟨g, j, none⟩ (.int .u32 v)) g (upd V j v) := by
  refine ⟨fun i hi => ?_, fun i hi => ?_⟩
  · by_cases e : i = j
    · subst e
      rw [World.cell?_setCell_same _ _ _ (h.cell i hi)]
      simp [upd]
    · rw [World.cell?_setCell_other]
      · rw [h.cell i hi]
        simp [upd, e]
      · intro hh
        injection hh with _ h2
        exact e (by omega)
  · rw [World.frozen?_setCell]; exact h.free i hi
/-- All eight numbers stored. -/
theorem Vec.set8 {w : World} {gv : Nat} {V : Nat → Int} (h : Vec w gv V) (a0 a1 a2 a3 a4 a5 a6 a7 : Int) : Vec ((((((((w.setCell ⟨gv, 0, none⟩ (.int .u32 a0)).setCell ⟨gv, 1, none⟩ (.int .u32 a1)).setCell ⟨gv, 2, none⟩ (.int .u32 a2)).setCell ⟨gv, 3, none⟩ (.int .u32 a3)).setCell ⟨gv, 4, none⟩ (.int .u32 a4)).setCell ⟨gv, 5, none⟩ (.int .u32 a5)).setCell ⟨gv, 6, none⟩ (.int .u32 a6)).setCell ⟨gv, 7, none⟩ (.int .u32 a7)) gv (of8 a0 a1 a2 a3 a4 a5 a6 a7) := by
  have h8 := (((((((h.set 0 a0).set 1 a1).set 2 a2).set 3 a3).set 4 a4).set 5 a5).set 6 a6).set 7 a7
  refine ⟨fun j hj => (h8.cell j hj).trans ?_, h8.free⟩
  congr 2
  unfold upd
  match j, hj with
  | 0, _ => rfl
  | 1, _ => rfl
  | 2, _ => rfl
  | 3, _ => rfl
  | 4, _ => rfl
  | 5, _ => rfl
  | 6, _ => rfl
  | 7, _ => rfl
theorem Sum.set8 {w : World} {g : Nat} {C : Nat → Int} (h : Sum w g C) {gv : Nat} (hg : gv ≠ g) (a0 a1 a2 a3 a4 a5 a6 a7 : Int) : Sum ((((((((w.setCell ⟨gv, 0, none⟩ (.int .u32 a0)).setCell ⟨gv, 1, none⟩ (.int .u32 a1)).setCell ⟨gv, 2, none⟩ (.int .u32 a2)).setCell ⟨gv, 3, none⟩ (.int .u32 a3)).setCell ⟨gv, 4, none⟩ (.int .u32 a4)).setCell ⟨gv, 5, none⟩ (.int .u32 a5)).setCell ⟨gv, 6, none⟩ (.int .u32 a6)).setCell ⟨gv, 7, none⟩ (.int .u32 a7)) g C :=
  (((((((h.far (p := ⟨gv, 0, none⟩) hg _).far (p := ⟨gv, 1, none⟩) hg _).far (p := ⟨gv, 2, none⟩) hg _).far (p := ⟨gv, 3, none⟩) hg _).far (p := ⟨gv, 4, none⟩) hg _).far (p := ⟨gv, 5, none⟩) hg _).far (p := ⟨gv, 6, none⟩) hg _).far (p := ⟨gv, 7, none⟩) hg _
theorem only_set8 {a w : World} {g : Nat} (h : a.grownBy w (some g)) {gv : Nat} (hp : a.heap.size ≤ gv) (a0 a1 a2 a3 a4 a5 a6 a7 : Int) : a.grownBy ((((((((w.setCell ⟨gv, 0, none⟩ (.int .u32 a0)).setCell ⟨gv, 1, none⟩ (.int .u32 a1)).setCell ⟨gv, 2, none⟩ (.int .u32 a2)).setCell ⟨gv, 3, none⟩ (.int .u32 a3)).setCell ⟨gv, 4, none⟩ (.int .u32 a4)).setCell ⟨gv, 5, none⟩ (.int .u32 a5)).setCell ⟨gv, 6, none⟩ (.int .u32 a6)).setCell ⟨gv, 7, none⟩ (.int .u32 a7)) (some g) :=
  only_setCell (p := ⟨gv, 7, none⟩) (only_setCell (p := ⟨gv, 6, none⟩) (only_setCell (p := ⟨gv, 5, none⟩) (only_setCell (p := ⟨gv, 4, none⟩) (only_setCell (p := ⟨gv, 3, none⟩) (only_setCell (p := ⟨gv, 2, none⟩) (only_setCell (p := ⟨gv, 1, none⟩) (only_setCell (p := ⟨gv, 0, none⟩) h (.inr hp) _) (.inr hp) _) (.inr hp) _) (.inr hp) _) (.inr hp) _) (.inr hp) _) (.inr hp) _) (.inr hp) _
theorem rnds_step {K : List Int} {b : ByteArray} {C C2 V : Nat → Int} {t : Nat} {Kt : Int} (ht : t < 64) (hC : (fun j => if 8 ≤ j ∧ j < 72 then sch b (j - 8) else C j) = C2) (hV : rnds K b C2 t = V) (hK : K.getD t 0 = Kt) :
    rnds K b C2 (t + 1) = rnd V Kt (C2 (8 + t)) := by
  have : C2 (8 + t) = sch b t := by
    rw [← hC]; simp only []; rw [if_pos (by omega)]; congr 1; omega
  rw [this, ← hV, ← hK, rnds]
/-- What is behind the last loop. -/
def fin (C V : Nat → Int) : Nat → Int := fun j => if j < 8 then (C j + V j) % 4294967296 else C j
theorem fin_step {C C' V : Nat → Int} {k : Nat} (hk : k < 8) (h : ∀ j, C' j = if j < k then (C j + V j) % 4294967296 else C j) :
    ∀ j, upd C' k ((C' k + V k) % 4294967296) j = if j < k + 1 then (C j + V j) % 4294967296 else C j := by
  intro j
  unfold upd
  by_cases e : j = k
  · subst e
    rw [if_pos rfl, if_pos (by omega), h j, if_neg (by omega)]
  · rw [if_neg e, h j]
    by_cases e2 : j < k
    · rw [if_pos e2, if_pos (by omega)]
    · rw [if_neg e2, if_neg (by omega)]
/-- A block's digest out of the eight numbers ahead of it. -/
def comp (K : List Int) (b : ByteArray) (V : Nat → Int) : Nat → Int := fun j => (V j + rnds K b V 64 j) % 4294967296
theorem rnds_congr (K : List Int) (b : ByteArray) {V V' : Nat → Int} (h : ∀ j, j < 8 → V j = V' j) : ∀ t j, j < 8 → rnds K b V t j = rnds K b V' t j
  | 0, j, hj => h j hj
  | t + 1, j, hj => by
    have ih := rnds_congr K b h t
    simp only [rnds, rnd, X, Y, ih 0 (by omega), ih 1 (by omega), ih 2 (by omega), ih 3 (by omega), ih 4 (by omega), ih 5 (by omega), ih 6 (by omega), ih 7 (by omega)]
theorem fin_comp {K : List Int} {b : ByteArray} {C C2 C3 V : Nat → Int} {t q : Nat} (ht : t = 64) (hq : q = 8) (hC : (fun j => if 8 ≤ j ∧ j < 72 then sch b (j - 8) else C j) = C2) (hV : rnds K b C2 t = V)
    (h : ∀ j, C3 j = if j < q then (C2 j + V j) % 4294967296 else C2 j) : ∀ j, j < 8 → C3 j = comp K b C j := by
  intro j hj
  have e : ∀ j, j < 8 → C2 j = C j := fun j hj => by rw [← hC]; simp only []; rw [if_neg (by omega)]
  rw [h j, if_pos (by omega), e j hj, comp, ← hV, ht, rnds_congr K b e 64 j hj]
theorem first_step {C C' : Nat → Int} {b : ByteArray} {k : Nat} (h : ∀ j, C' j = if 8 ≤ j ∧ j < 8 + k then W4 b (j - 8) else C j) :
    ∀ j, upd C' (8 + k) (W4 b k) j = if 8 ≤ j ∧ j < 8 + (k + 1) then W4 b (j - 8) else C j := by
  intro j
  unfold upd
  by_cases e : j = 8 + k
  · rw [if_pos e, if_pos (by omega), e]; congr 1; omega
  · rw [if_neg e, h j]
    by_cases e2 : 8 ≤ j ∧ j < 8 + k
    · rw [if_pos e2, if_pos (by omega)]
    · rw [if_neg e2, if_neg (by omega)]
theorem first_end {C C' : Nat → Int} {b : ByteArray} {k : Nat} (h : ∀ j, C' j = if 8 ≤ j ∧ j < 8 + k then W4 b (j - 8) else C j) (hk : k = 16) :
    ∀ j, C' j = if 8 ≤ j ∧ j < 8 + 16 then sch b (j - 8) else C j := by
  intro j
  rw [h j, hk]
  by_cases e : 8 ≤ j ∧ j < 8 + 16
  · rw [if_pos e, if_pos e, sch, dif_pos (by omega)]
  · rw [if_neg e, if_neg e]
theorem sch_step {C C' : Nat → Int} {b : ByteArray} {k : Nat} (hk : 16 ≤ k) (h : ∀ j, C' j = if 8 ≤ j ∧ j < 8 + k then sch b (j - 8) else C j) :
    ∀ j, upd C' (8 + k) (F (C' (8 + (k - 2))) (C' (8 + (k - 7))) (C' (8 + (k - 15))) (C' (8 + (k - 16)))) j = if 8 ≤ j ∧ j < 8 + (k + 1) then sch b (j - 8) else C j := by
  have e : ∀ d, 1 ≤ d → d ≤ 16 → C' (8 + (k - d)) = sch b (k - d) := fun d h1 h2 => by
    rw [h, if_pos (by omega)]; congr 1; omega
  intro j
  unfold upd
  by_cases e0 : j = 8 + k
  · rw [if_pos e0, if_pos (by omega), e 2 (by omega) (by omega), e 7 (by omega) (by omega), e 15 (by omega) (by omega), e 16 (by omega) (by omega), show j - 8 = k by omega]
    conv => rhs; rw [sch, dif_neg (by omega)]
  · rw [if_neg e0, h j]
    by_cases e2 : 8 ≤ j ∧ j < 8 + k
    · rw [if_pos e2, if_pos (by omega)]
    · rw [if_neg e2, if_neg (by omega)]
end Go.Proofs.YtkbknndlkjodpaaDoor.Sha
