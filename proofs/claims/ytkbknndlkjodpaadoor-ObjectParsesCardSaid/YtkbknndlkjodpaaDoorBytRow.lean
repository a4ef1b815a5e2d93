/- A row of bytes in the machine's memory, and how it grows by append. -/
import Derived.ArgAppend
import Derived.Laws.BytesArg
import Derived.Lib.ConvBytes
import Derived.Below
import Derived.WalkSmall
import Derived.Laws.IdiomCopy
import Derived.Laws.AppendOwn
namespace Go.Proofs.YtkbknndlkjodpaaDoor.BytRow
open Go Go.RowKit

/-- A row of bytes of the call's own, made since there were base blocks, and not block g: its numbers xs; what is spare may be written. -/
def Byt (w : World) (base g : Nat) (v : Value) (xs : List Int) : Prop :=
  ∃ b cap, v = .slice (some ⟨b, 0, none⟩) xs.length cap ∧ base ≤ b ∧ b ≠ g ∧ b < w.heap.size ∧ xs.length ≤ cap ∧
    (∀ j, j < xs.length → w.cell? ⟨b, j, none⟩ = some (.int .u8 (xs.getD j 0))) ∧
    ∀ j, xs.length ≤ j → j < cap → (w.cell? ⟨b, j, none⟩).isSome = true ∧ w.frozen? ⟨b, j, none⟩ = false
section
variable {w w' : World} {base g : Nat} {v : Value} {xs : List Int}
theorem cell_of_heap {a : Addr} (h : w'.heap[a.block]? = w.heap[a.block]?) : w'.cell? a = w.cell? a := World.cell?_of_block h
theorem frozen_of_heap {a : Addr} (h : w'.heap[a.block]? = w.heap[a.block]?) : w'.frozen? a = w.frozen? a := by
  unfold World.frozen?
  rw [h]
/-- The row, where its own block is as it was. -/
theorem Byt.moved (h : Byt w base g v xs) (hs : w.heap.size ≤ w'.heap.size) (hm : ∀ i, i < w.heap.size → i ≠ g → w'.heap[i]? = w.heap[i]?) : Byt w' base g v xs := by
  obtain ⟨b, cap, rfl, h1, h2, h3, h4, h5, h6⟩ := h
  refine ⟨b, cap, rfl, h1, h2, Nat.lt_of_lt_of_le h3 hs, h4, fun j hj => ?_, fun j h7 h8 => ?_⟩
  · rw [cell_of_heap (hm b h3 h2)]; exact h5 j hj
  · rw [cell_of_heap (hm b h3 h2), frozen_of_heap (hm b h3 h2)]; exact h6 j h7 h8
theorem Byt.only (h : Byt w base g v xs) (hg : w.grownBy w' (some g)) : Byt w' base g v xs :=
  h.moved hg.size fun i hi hne => hg.block i hi (by intro e; injection e with e; exact hne e)
theorem Byt.alloc (h : Byt w base g v xs) (o : Obj) : Byt (w.alloc o) base g v xs :=
  h.moved (by simp) fun i hi _ => Below.heap_alloc w o i hi
theorem Byt.slice (h : Byt w base g v xs) : ∃ b cap, v = .slice (some ⟨b, 0, none⟩) xs.length cap := by
  obtain ⟨b, cap, rfl, _⟩ := h
  exact ⟨b, cap, rfl⟩
/-- A new row. -/
theorem Byt.of_own {n : Nat} {e : TypeId} (h : w.ownsRow base e 1 v n (xs.map (Value.int .u8))) (hn : n = xs.length) (h0 : 0 < n) (hg : ∀ b, v.ownBlock = some b → b ≠ g) : Byt w base g v xs := by
  subst hn
  obtain ⟨h1, h2⟩ := h
  rcases h2 with ⟨rfl, h2⟩ | ⟨b, cap, cur, rfl, hb, hh, hl, hm, hsz, ht⟩
  · omega
  · have hlt : b < w.heap.size := by
      rcases Nat.lt_or_ge b w.heap.size with h | h
      · exact h
      · rw [Array.getElem?_eq_none h] at hh; cases hh
    refine ⟨b, cap, rfl, hb, hg b rfl, hlt, hl, fun j hj => ?_, fun j hj hj2 => ⟨?_, ?_⟩⟩
    · have : cur[j]? = some (.int .u8 (xs.getD j 0)) := by
        have h3 : (cur.toList.take (xs.length * 1))[j]? = (xs.map (Value.int .u8))[j]? := by rw [ht]
        rw [List.getElem?_take_of_lt (by omega), Array.getElem?_toList] at h3
        rw [h3]; simp [hj, List.getD]
      simp [World.cell?, hh, this]
    · simp [World.cell?, hh]; omega
    · simp [World.frozen?, hh]
/-- []byte(s). -/
theorem Byt.of_string (w : World) (e : TypeId) (s : ByteArray) (g base : Nat) (hb : base ≤ w.heap.size) (hg : g < w.heap.size) :
    ∃ cap W, cap = grownCap w s.size 0 e ∧ W = Lib.bytesWorld w e s ∧ Byt W base g (.slice (some ⟨w.heap.size, 0, none⟩) s.size cap) (s.data.toList.map fun c => (c.toNat : Int)) ∧ w.grownBy W none := by
  have hl : (s.data.toList.map fun c => (c.toNat : Int)).length = s.size := by rw [List.length_map, Array.length_toList]; rfl
  have hge := grownCap_ge w s.size 0 e
  have hcs : (Lib.bytesCells w e s).size = grownCap w s.size 0 e := by
    unfold Lib.bytesCells
    rw [Array.size_append, Array.size_map, Array.size_replicate]
    show s.size + _ = _
    omega
  refine ⟨_, _, rfl, rfl, ⟨w.heap.size, grownCap w s.size 0 e, by rw [hl], hb, by omega, by rw [Lib.bytesWorld_size]; omega, by rw [hl]; exact hge, fun j hj => ?_, fun j hj hj2 => ⟨?_, ?_⟩⟩, ?_⟩
  · rw [hl] at hj
    rw [Lib.bytesWorld_cell w e s j hj]
    simp [List.getD, hj]
  · rw [World.cell?, Lib.bytesWorld_at_new]
    simp [hcs, hj2]
  · rw [World.frozen?, Lib.bytesWorld_at_new]
    simp [hcs]
    omega
  · refine ⟨?_, ?_, ?_, by rw [Lib.bytesWorld_size]; omega, fun i hi _ => Lib.bytesWorld_at_old w e s i hi⟩ <;> rfl
/-- make([]byte, 0, c). -/
theorem Byt.made (w : World) (e : TypeId) (c base g : Nat) (hb : base ≤ w.heap.size) (hg : g < w.heap.size) :
    Byt (w.alloc (.cells (Array.replicate c (.int .u8 0)) e)) base g (.slice (some ⟨w.heap.size, 0, none⟩) 0 c) [] :=
  ⟨w.heap.size, c, rfl, hb, by omega, by simp, Nat.zero_le _, fun j hj => by simp at hj, fun j _ hj => by rw [World.cell?_alloc_new, World.frozen?_alloc_new]; simp [hj]⟩
/-- string(v). -/
theorem Byt.string {P : Program} {b n cap : Nat} (h : Byt w base g (.slice (some ⟨b, 0, none⟩) n cap) xs) (t u e : TypeId) (ht : P.underlying t = some (.slice e)) (he : P.underlying e = some (.int .u8)) (hu : P.underlying u = some .string) :
    (convert t u (.slice (some ⟨b, 0, none⟩) n cap)).run P w = .ok (.string (strOfNums xs)) w := by
  obtain ⟨b', cap', e1, h1, h2, h3, h4, h5, h6⟩ := h
  injection e1 with e1 e2 e3
  injection e1 with e1
  injection e1 with e1
  subst e1 e2 e3
  exact run_convert_bytes_arg w t e ht he b 0 xs.length cap xs rfl (fun i hi => by rw [Nat.zero_add]; exact h5 i hi) u hu
/-- What an append does to the rest of the world. -/
structure Went (base g : Nat) (w w' : World) : Prop where
  size : w.heap.size ≤ w'.heap.size
  only : ∀ w0 : World, Below base w0 w → Below base w0 w'
  row : w'.heap[g]? = w.heap[g]?
theorem setCells_frame (b : Nat) : ∀ (vs : List Value) (o : Nat) (w : World), (w.setCells b o vs).heap.size = w.heap.size ∧ (w.setCells b o vs).os = w.os ∧ (w.setCells b o vs).tape = w.tape ∧ (w.setCells b o vs).output = w.output ∧
    ∀ i, i ≠ b → (w.setCells b o vs).heap[i]? = w.heap[i]?
  | [], o, w => ⟨rfl, rfl, rfl, rfl, fun _ _ => rfl⟩
  | v :: vs, o, w => by
    obtain ⟨h1, h2, h3, h4, h5⟩ := setCells_frame b vs (o + 1) (w.setCell ⟨b, o, none⟩ v)
    refine ⟨h1.trans (by simp [World.setCell]), h2, h3, h4, fun i hi => (h5 i hi).trans (Below.heap_setCell w ⟨b, o, none⟩ v i hi)⟩
/-- append(v, news..), the new numbers in a block of their own, just made. -/
theorem Byt.append {P : Program} {ops : Array Oper} {rest : List Oper} {o : Oper} {a : Act} {Q : Exit → Act → World → Prop} {W : World} (hgd : o.guard = none) (s x : Operand) (t e : TypeId)
    (ho : o.op = .call { callee := .builtin .append, args := #[s, x], argTypes := #[t, t] })
    (ht : P.underlying t = some (.slice e)) (hinfo : (P.info? e).map (fun i => (i.zero, i.size, i.bytes)) = some (some (.int .u8 0), 1, 1))
    (news : List Int) (m : Nat) (cs : Array Value) (hcs : cs = (news.map (Value.int .u8)).toArray) (hm : m = news.length) (hs : a.eval s = v) (hx : a.eval x = .slice (some ⟨W.heap.size, 0, none⟩) m m)
    (H : Byt W base g v xs) (hbase : base ≤ W.heap.size) (hgW : g < W.heap.size) (hl : xs.length + m ≤ 140737488355328) (h0 : 0 < xs.length + m)
    (h : ∀ v1 w1, Byt w1 base g v1 (xs ++ news) → Went base g W w1 → wpList P ops Q rest (a.put o.dst v1) w1) :
    wpList P ops Q (o :: rest) a (W.alloc (.cells cs e)) := by
  subst hcs hm
  obtain ⟨b, cap, rfl, h1, h2, h3, h4, h5, h6⟩ := H
  obtain ⟨i, hi, hz, hsz, hby⟩ := info_parts hinfo
  have hWs : (W.alloc (.cells (news.map (Value.int .u8)).toArray e)).heap.size = W.heap.size + 1 := by simp
  refine wpList_append_arg _ hgd s x t ho e i (.int .u8 0) 1 1 ht hi hz hsz hby rfl (by omega) b 0 xs.length cap (xs.map (Value.int .u8)) hs (by simp) ?_ ⟨W.heap.size, 0, none⟩ news.length news.length (news.map (Value.int .u8)) hx (by simp) ?_ ?_ ?_ (by unfold maxLen; omega) (by omega) ?_ ?_
  · intro j u hu
    have hj : j < xs.length := by
      rcases Nat.lt_or_ge j xs.length with hj | hj
      · exact hj
      · rw [List.getElem?_eq_none (by simpa using hj)] at hu; cases hu
    rw [Nat.zero_add, World.cell?_alloc_lt _ _ _ h3, h5 j hj]
    simp [hj] at hu
    simp [List.getD, hj, hu]
  · intro j u hu
    have hp : (⟨W.heap.size, 0, none⟩ : Addr).add j = ⟨W.heap.size, j, none⟩ := by unfold Addr.add; split <;> simp_all
    rw [hp, World.cell?_alloc_new]
    simpa using hu
  · intro u hu
    obtain ⟨z, _, rfl⟩ := List.mem_map.1 hu
    rfl
  · intro hr j hj
    have hj' : j < news.length := by simpa using hj
    rw [World.cell?_alloc_lt _ _ _ h3, World.frozen?_alloc_old _ _ _ (Nat.ne_of_lt h3)]
    exact h6 _ (by omega) (by omega)
  · intro hr
    obtain ⟨f1, f2, f3, f4, f5⟩ := setCells_frame b (news.map (Value.int .u8)) (0 + xs.length * 1) (W.alloc (.cells (news.map (Value.int .u8)).toArray e))
    have hb' : b ≠ W.heap.size := Nat.ne_of_lt h3
    have hspare : ∀ j, j < (news.map (Value.int .u8)).length → ((W.alloc (.cells (news.map (Value.int .u8)).toArray e)).cell? ⟨b, 0 + xs.length * 1 + j, none⟩).isSome = true := by
      intro j hj
      have hj' : j < news.length := by simpa using hj
      rw [World.cell?_alloc_lt _ _ _ h3]
      exact (h6 _ (by omega) (by omega)).1
    have hll : xs.length + news.length = (xs ++ news).length := by simp
    rw [hll]
    refine h _ _ ⟨b, cap, rfl, h1, h2, by rw [f1, hWs]; omega, by rw [List.length_append]; exact hr, fun j hj => ?_, fun j hj hj2 => ?_⟩ ⟨by rw [f1, hWs]; omega, fun w0 hb0 => ?_, ?_⟩
    · rcases Nat.lt_or_ge j xs.length with hjx | hjx
      · rw [World.cell?_setCells_out _ _ _ _ _ (fun _ _ => .inl (by simp; omega)), World.cell?_alloc_lt _ _ _ h3, h5 j hjx]
        simp [List.getD, List.getElem?_append_left hjx]
      · have hjn : j - xs.length < news.length := by rw [List.length_append] at hj; omega
        have := World.cell?_setCells_in b (news.map (Value.int .u8)) (0 + xs.length * 1) _ hspare (j - xs.length) (by simpa using hjn)
        rw [show 0 + xs.length * 1 + (j - xs.length) = j by omega] at this
        rw [this]
        simp [List.getD, List.getElem?_append_right hjx, hjn]
    · rw [List.length_append] at hj
      rw [World.cell?_setCells_out _ _ _ _ _ (fun _ _ => .inr (by simp; omega)), World.frozen?_setCells, World.cell?_alloc_lt _ _ _ h3, World.frozen?_alloc_old _ _ _ (Nat.ne_of_lt h3)]
      exact h6 j (by omega) hj2
    · have hb1 := hb0.alloc hbase (.cells (news.map (Value.int .u8)).toArray e)
      refine ⟨f2.trans hb1.os, f3.trans hb1.tape, f4.trans hb1.output, ?_, fun i hi => (f5 i (by omega)).trans (hb1.block i hi)⟩
      rw [f1]; exact hb1.size
    · rw [f5 g (Ne.symm h2)]
      exact Below.heap_alloc W _ g hgW
  · intro hr v' w' hown hgrow
    rw [← List.map_append] at hown
    have hown' := hown
    refine h _ _ (Byt.of_own (g := g) (base := base) (e := e) ⟨hown'.1, ?_⟩ (by simp) h0 ?_) ⟨Nat.le_trans (by rw [hWs]; omega) hgrow.size, fun w0 hb0 => ?_, ?_⟩
    · rcases hown.2 with q | ⟨gg, cap2, cur, e1, e2, e3⟩
      · exact .inl q
      · exact .inr ⟨gg, cap2, cur, e1, by rw [hWs] at e2; omega, e3⟩
    · intro b2 hb2
      rcases hown.2 with ⟨rfl, _⟩ | ⟨gg, cap2, cur, rfl, e2, e3⟩
      · simp [Value.ownBlock] at hb2
      · simp [Value.ownBlock] at hb2
        rw [hWs] at e2
        omega
    · exact (hb0.alloc hbase _).grown hgrow (by rw [hWs]; omega) (fun k hk => by cases hk)
    · rw [hgrow.block g (by rw [hWs]; omega) (by simp)]
      exact Below.heap_alloc W _ g hgW
end
end Go.Proofs.YtkbknndlkjodpaaDoor.BytRow
