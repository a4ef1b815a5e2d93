/- The walk of ident.Digest: it returns the plain digest, where the text has at most 140737488351232 bytes and the table holds its numbers. -/
import Derived.Test.YtkbknndlkjodpaaDoorShaBlk
import Derived.Test.YtkbknndlkjodpaaDoorBytRow
import Derived.ArgAppend
import Derived.Laws.BytesArg
import Derived.Lib.ConvBytes
import Derived.Deep.WholeRow
import Derived.WalkSmall
namespace Go.Proofs.YtkbknndlkjodpaaDoor.Sha
open Go Go.RowKit Go.Proofs.YtkbknndlkjodpaaDoorW.PrintWords Go.Proofs.YtkbknndlkjodpaaDoorW.PrintMore Go.Proofs.YtkbknndlkjodpaaDoor.BytRow

/-- The digest's first eight numbers. -/
def V0 : Nat → Int := of8 1779033703 3144134277 1013904242 2773480762 1359893119 2600822924 528734635 1541459225
noncomputable def D0 : Array Value := (((((((Tryd.zeroCells55.setIfInBounds 0 (Value.int IntKind.u32 1779033703)).setIfInBounds 1 (Value.int IntKind.u32 3144134277)).setIfInBounds 2 (Value.int IntKind.u32 1013904242)).setIfInBounds 3 (Value.int IntKind.u32 2773480762)).setIfInBounds 4 (Value.int IntKind.u32 1359893119)).setIfInBounds 5 (Value.int IntKind.u32 2600822924)).setIfInBounds 6 (Value.int IntKind.u32 528734635)).setIfInBounds 7 (Value.int IntKind.u32 1541459225)
theorem D0_list : D0.toList = (List.range 72).map (fun j => Value.int .u32 (V0 j)) := by kernel_rfl
theorem D0_at (j : Nat) (hj : j < 72) : D0[j]? = some (Value.int .u32 (V0 j)) := by
  rw [← Array.getElem?_toList, D0_list]
  simp [hj]
theorem Sum.start (w : World) : Sum (w.alloc (.cells D0 55)) w.heap.size V0 :=
  ⟨fun j hj => by rw [World.cell?_alloc_new]; exact D0_at j hj, fun j hj => World.frozen?_alloc_new _ _ _ _⟩
theorem tab_below {w w1 : World} (hT : Lib.TabIs Tryd.prog w "graftage/ident.table" .u32 ktab) (hb : Below w.heap.size w w1) : Lib.TabIs Tryd.prog w1 "graftage/ident.table" .u32 ktab := by
  unfold Lib.TabIs at hT ⊢
  unfold World.var? at hT ⊢
  rw [gTable] at hT ⊢
  simp only [Option.bind_some] at hT ⊢
  have hlt : 0 < w.heap.size := by
    rcases Nat.lt_or_ge 0 w.heap.size with h | h
    · exact h
    · rw [Array.getElem?_eq_none h] at hT; simp at hT
  rw [hb.block _ hlt]
  exact hT
theorem tab_lt {w : World} (hT : Lib.TabIs Tryd.prog w "graftage/ident.table" .u32 ktab) : 0 < w.heap.size :=
  World.block_lt_of_cell? w _ (hT.cell gTable 0 (by decide))
theorem below_grown {w W w1 : World} {g B : Nat} (h : Below B w W) (hg : W.grownBy w1 (some g)) (hb : B ≤ W.heap.size) (hgB : B ≤ g) : Below B w w1 :=
  h.grown hg hb (fun k hk => by injection hk with hk; omega)
theorem Sum.of_row {w w' : World} {g : Nat} {C : Nat → Int} (h : Sum w g C) (hr : w'.heap[g]? = w.heap[g]?) : Sum w' g C :=
  ⟨fun j hj => by rw [cell_of_heap (a := ⟨g, j, none⟩) hr]; exact h.cell j hj, fun j hj => by rw [frozen_of_heap (a := ⟨g, j, none⟩) hr]; exact h.free j hj⟩
theorem Sum.lt {w : World} {g : Nat} {C : Nat → Int} (h : Sum w g C) : g < w.heap.size := World.block_lt_of_cell? w _ (h.cell 0 (by omega))
def lenOf : Value → Nat
  | .slice _ n _ => n
  | _ => 0
theorem info5 : (Tryd.prog.info? 5).map (fun i => (i.zero, i.size, i.bytes)) = some (some (.int .u8 0), 1, 1) := by kernel_rfl
/-- A string's bytes. -/
def byts (s : ByteArray) : List Int := s.data.toList.map fun c => (c.toNat : Int)
theorem comp_congr (K : List Int) (b : ByteArray) {V V' : Nat → Int} (h : ∀ j, j < 8 → V j = V' j) (j : Nat) (hj : j < 8) : comp K b V j = comp K b V' j := by
  unfold comp
  rw [h j hj, rnds_congr K b h 64 j hj]
/-- The digest behind k blocks. -/
def run (f : Nat → ByteArray) (V : Nat → Int) : Nat → Nat → Int
  | 0 => V
  | k + 1 => comp ktab (f k) (run f V k)
theorem run_congr (f : Nat → ByteArray) {V V' : Nat → Int} (h : ∀ j, j < 8 → V j = V' j) : ∀ k j, j < 8 → run f V k j = run f V' k j
  | 0, j, hj => h j hj
  | k + 1, j, hj => comp_congr ktab (f k) (run_congr f h k) j hj
/-- How many noughts. -/
def zs (r : Nat) : Nat := (119 - r) % 64
/-- The length's first i bytes. -/
def lenb (L : Int) (i : Nat) : List Int := (List.range i).map fun i => (L / 2 ^ (56 - 8 * i)) % 256
theorem lenb_succ (L : Int) (i : Nat) : lenb L (i + 1) = lenb L i ++ [(L / 2 ^ (56 - 8 * i)) % 256] := by simp [lenb, List.range_succ]
theorem lenb_length (L : Int) (i : Nat) : (lenb L i).length = i := by simp [lenb]
/-- What stands behind the whole blocks. -/
def pad (s : ByteArray) : List Int := (byts (s.extract (64 * (s.size / 64)) s.size) ++ 128 :: List.replicate (zs (s.size % 64)) 0) ++ lenb ((s.size : Int) * 8) 8
/-- The digest's eight numbers. -/
def last (s : ByteArray) : Nat → Int := run (fun j => strOfNums (((pad s).drop (64 * j)).take 64)) (run (fun i => s.extract (64 * i) (64 * i + 64)) V0 (s.size / 64)) ((pad s).length / 64)
def be4 (x : Int) : List Int := [(x / 16777216) % 256, (x / 65536) % 256, (x / 256) % 256, x % 256]
def outs (V : Nat → Int) (j : Nat) : List Int := (List.range j).flatMap fun j => be4 (V j)
theorem outs_succ (V : Nat → Int) (j : Nat) : outs V (j + 1) = outs V j ++ be4 (V j) := by simp [outs, List.range_succ]
theorem outs_length (V : Nat → Int) : ∀ j, (outs V j).length = 4 * j
  | 0 => rfl
  | j + 1 => by rw [outs_succ, List.length_append, outs_length V j]; simp [be4]; omega
theorem index8 (C : Nat → Int) (m : Nat) (hm : m < 8) : ∀ W, (Instr.index 52 (.agg #[.int .u32 (C 0), .int .u32 (C 1), .int .u32 (C 2), .int .u32 (C 3), .int .u32 (C 4), .int .u32 (C 5), .int .u32 (C 6), .int .u32 (C 7)]) (.int .i64 (m : Int))).run Tryd.prog W = .ok (.int .u32 (C m)) W := by
  intro W
  have h : m = 0 ∨ m = 1 ∨ m = 2 ∨ m = 3 ∨ m = 4 ∨ m = 5 ∨ m = 6 ∨ m = 7 := by omega
  rcases h with rfl | rfl | rfl | rfl | rfl | rfl | rfl | rfl <;> simp [Instr.index, run_underlying Tryd.underlying52, asIntOf, go_sem]
theorem outs_congr {V V' : Nat → Int} (h : ∀ j, j < 8 → V j = V' j) : ∀ j, j ≤ 8 → outs V j = outs V' j
  | 0, _ => rfl
  | j + 1, hj => by rw [outs_succ, outs_succ, outs_congr h j (by omega), h j (by omega)]
/-- The digest. -/
def digest (s : ByteArray) : ByteArray := strOfNums (outs (last s) 8)

theorem cut64 {w : World} {base g b n cap : Nat} {xs : List Int} (h : Byt w base g (.slice (some ⟨b, 0, none⟩) n cap) xs) (q : Nat) (hq : 64 * q + 64 ≤ n) (hn : xs.length = n) :
    (∀ W, (Instr.slice 48 (.slice (some ⟨b, 0, none⟩) n cap) (some (.int .i64 (64 * (q : Int)))) (some (.int .i64 (64 * (q : Int) + 64))) none).run Tryd.prog W = .ok (.slice (some ⟨b, 64 * q, none⟩) 64 (cap - 64 * q)) W) ∧
      (convert 48 9 (.slice (some ⟨b, 64 * q, none⟩) 64 (cap - 64 * q))).run Tryd.prog w = .ok (.string (strOfNums ((xs.drop (64 * q)).take 64))) w := by
  obtain ⟨b', cap', e, h1, h2, h3, h4, h5, h6⟩ := h
  injection e with e1 e2 e3
  injection e1 with e1
  injection e1 with e1
  subst e1 e3
  constructor
  · intro W
    have hel : Tryd.prog.elem 48 = 5 := by simp [Program.elem, Tryd.underlying48]
    have hu : Tryd.prog.underlying 48 = some (.slice (Tryd.prog.elem 48)) := by rw [hel]; exact Tryd.underlying48
    rw [run_slice_lh W 48 _ n cap hu .i64 .i64 _ _ (by omega) (by omega) (by omega), hel, show (64 * (q : Int)).toNat = 64 * q by omega, show (64 * (q : Int) + 64).toNat = 64 * q + 64 by omega]
    obtain ⟨i, hi, _, hsz, _⟩ := info_parts info5
    have hne : ¬ cap = 64 * q := by omega
    simp [sizeOf, typeInfo, hi, hsz, sliced, Result.andThen, hne, Addr.add]
    omega
  · refine run_convert_bytes_arg w 48 5 Tryd.underlying48 Tryd.underlying5 b (64 * q) 64 (cap - 64 * q) _ (by simp; omega) (fun i hi => ?_) 9 Tryd.underlying9
    rw [h5 (64 * q + i) (by omega)]
    simp [List.getD, hi, List.getElem?_drop]
theorem strOf64 {xs : List Int} {q : Nat} (h : 64 * q + 64 ≤ xs.length) : (strOfNums ((xs.drop (64 * q)).take 64)).size = 64 := by
  show ((((xs.drop (64 * q)).take 64).map fun n => UInt8.ofNat n.toNat).toArray).size = 64
  simp
  omega
set_option maxHeartbeats 4000000 in
set_option maxRecDepth 100000 in
theorem digest_calls (s : ByteArray) (w : World) (hs : s.size ≤ 140737488351232) (hT : Lib.TabIs Tryd.prog w "graftage/ident.table" .u32 ktab) :
    Calls Tryd.prog 30 #[.string s] w fun e w' => e = .returned (.string (digest s)) ∧ Below w.heap.size w w' := by
  have HT := Lib.hid hT
  clear hT
  have hst := run_storeCells_new (P := Tryd.prog) w 55 Tryd.zeroCells55 D0 (by kernel_rfl) (by decide) (by kernel_rfl)
  obtain ⟨wa, hwa⟩ : ∃ wa, wa = w.alloc (.cells D0 55) := ⟨_, rfl⟩
  rw [← hwa] at hst
  unfold D0 at hst
  simp only [Array.toList_setIfInBounds] at hst
  have HS0 : Hid (Sum wa w.heap.size V0) := by rw [hwa]; exact Sum.start w
  have HB0 : Hid (Below w.heap.size w wa) := by rw [hwa]; exact (Below.refl _ _).alloc (Nat.le_refl _) _
  clear hwa
  have hmod : (0 : Int) ≤ (s.size : Int) % 64 := by omega
  have hn : IntKind.i64.wrap ((s.size : Int) - (s.size : Int) % 64) = ((64 * (s.size / 64) : Nat) : Int) := by rw [IntWalk.i64_in _ (by omega)]; omega
  go_enter Tryd.func30, Tryd.ntmps30
  go_wp2
  go_loopw [5] (fun i wr => ∃ k : Nat, k ≤ s.size / 64 ∧ i = .int .i64 (64 * (k : Int)) ∧ (∃ C : Nat → Int, Hid (Sum wr w.heap.size C) ∧ Hid (∀ j, j < 8 → C j = run (fun i => s.extract (64 * i) (64 * i + 64)) V0 k j)) ∧ Hid (Below w.heap.size w wr)) (fun i _ => s.size - (intOf i).toNat)
  case atStart => exact ⟨0, by omega, rfl, ⟨V0, HS0, fun _ _ => rfl⟩, HB0⟩
  case round =>
    clear HS0 HB0
    obtain ⟨k, hk, rfl, ⟨C, HS, HC⟩, HB⟩ := hrel
    by_cases hlt : k < s.size / 64
    · have w64 : IntKind.i64.wrap (64 * (k : Int) + 64) = 64 * (k : Int) + 64 := IntWalk.i64_in _ (by omega)
      have hsl : ∀ W, (Instr.slice 9 (.string s) (some (.int .i64 (64 * (k : Int)))) (some (.int .i64 (64 * (k : Int) + 64))) none).run Tryd.prog W = .ok (.string (s.extract (64 * k) (64 * k + 64))) W := fun W => by
        rw [run_slice_string W 9 s .i64 .i64 _ _ Tryd.underlying9 (by omega) (by omega) (by omega), show (64 * (k : Int)).toNat = 64 * k by omega, show (64 * (k : Int) + 64).toNat = 64 * k + 64 by omega]
      have hdk : decide ((k : Int) < (s.size : Int) / 64) = true := by simp; omega
      go_wp2_with (go_at_call 35; refine (block_calls _ C (s.extract (64 * k) (64 * k + 64)) (by rw [ByteArray.size_extract]; omega) wr (tab_below HT.out HB.out) (Nat.ne_of_gt (tab_lt HT.out)) HS.out).mono ?_; rintro e w1 ⟨rfl, hg1, C1, hS1, hC1⟩)
      go_roundw
      case rel => exact ⟨k + 1, by omega, by first | go_num | (congr 1; omega), ⟨C1, hS1, fun j hj => by rw [hC1 j hj, comp_congr ktab _ HC.out j hj]; rfl⟩, below_grown HB.out hg1 HB.out.size (Nat.le_refl _)⟩
      case measure => simp [intOf]; omega
    · have hk' : k = s.size / 64 := by omega
      have HC' : Hid (∀ j, j < 8 → C j = run (fun i => s.extract (64 * i) (64 * i + 64)) V0 (s.size / 64) j) := by rw [← hk']; exact HC.out
      clear HC
      have hdk : decide ((k : Int) < (s.size : Int) / 64) = false := by simp; omega
      clear hk'
      obtain ⟨cap, wB, hcap, hwB, hByt, hgB⟩ := Byt.of_string wr 5 (s.extract (64 * (s.size / 64)) s.size) w.heap.size w.heap.size HB.out.size HS.out.lt
      have hcv := Lib.run_convert_string_bytes (P := Tryd.prog) wr 9 48 5 (s.extract (64 * (s.size / 64)) s.size) Tryd.underlying9 Tryd.underlying48 Tryd.underlying5
      rw [← hcap, ← hwB] at hcv
      have HS2 : Hid (Sum wB w.heap.size C) := HS.out.of_row (hgB.block _ HS.out.lt (by simp))
      have HB2 : Hid (Below w.heap.size w wB) := HB.out.grown hgB HB.out.size (fun k hk => by cases hk)
      have HY := Lib.hid hByt
      have HG := Lib.hid hgB
      clear hByt hgB hcap hwB HS HB
      obtain ⟨r, hr⟩ : ∃ r, r = s.size % 64 := ⟨_, rfl⟩
      have hr64 : r < 64 := by omega
      have hRs : (s.extract (64 * (s.size / 64)) s.size).size = r := by rw [ByteArray.size_extract]; omega
      rw [hRs] at hcv HY
      have HR := Lib.hid hr
      have HRs := Lib.hid hRs
      clear hr hRs
      have hlen : (byts (s.extract (64 * (s.size / 64)) s.size)).length = r := by rw [← HRs.out]; simp [byts]
      have HLEN := Lib.hid hlen
      clear hlen
      generalize hx0 : byts (s.extract (64 * (s.size / 64)) s.size) = xs0 at HLEN
      have HY0 : Hid (Byt wB w.heap.size w.heap.size (.slice (some ⟨wr.heap.size, 0, none⟩) r cap) xs0) := by rw [← hx0]; exact HY.out
      clear HY
      have HX0 := Lib.hid hx0
      clear hx0
      go_wp2_with (at_builtin; refine Byt.append rfl (.tmp 36) (.tmp 37) 48 5 rfl Tryd.underlying48 info5 [128] 1 _ rfl rfl rfl rfl HY0.out HB2.out.size HS2.out.lt (by rw [HLEN.out]; omega) (by omega) ?_; intro v1 w1 hY1 hw1; have HY1 := Lib.hid hY1; have HW1 := Lib.hid hw1; obtain ⟨b1, cap1, rfl⟩ := hY1.slice; clear hY1 hw1)
      have HYs : Hid (Byt w1 w.heap.size w.heap.size (.slice (some ⟨b1, 0, none⟩) (xs0.length + 1) cap1) (xs0 ++ 128 :: List.replicate 0 0)) := Lib.hid (by simpa using HY1.out)
      clear HY1
      have hZ : zs r = (119 - r) % 64 := rfl
      have HZ := Lib.hid hZ
      clear hZ
      go_loopw [6] (fun v wr => ∃ (z n b1 cap1 : Nat), z ≤ zs r ∧ Hid (n = r + 1 + z) ∧ v = .slice (some ⟨b1, 0, none⟩) n cap1 ∧ Hid (Byt wr w.heap.size w.heap.size (.slice (some ⟨b1, 0, none⟩) n cap1) (xs0 ++ 128 :: List.replicate z 0)) ∧ Hid (Sum wr w.heap.size C) ∧ Hid (Below w.heap.size w wr)) (fun v _ => zs r + r + 1 - lenOf v)
      case atStart => exact ⟨0, xs0.length + 1, b1, cap1, by omega, Lib.hid (by rw [HLEN.out]), rfl, HYs, HS2.out.of_row HW1.out.row, HW1.out.only _ HB2.out⟩
      case round =>
        clear HYs HW1 HS2 HB2
        obtain ⟨z, n, b1, cap1, hz, HN, rfl, HY1, HS2, HB2⟩ := hrel
        by_cases ht : n % 64 = 56
        · have hne : (((n : Int) % 64) != 56) = false := by simp; omega
          have hzz : z = zs r := by have := HN.out; have := HZ.out; omega
          have hn128 : n ≤ 128 := by have := HN.out; have := HZ.out; omega
          have HT2 := Lib.hid ht
          have HN1 : Hid (n = xs0.length + 1 + zs r) := Lib.hid (by rw [HN.out, HLEN.out, hzz])
          have HY2 : Hid (Byt wr w.heap.size w.heap.size (.slice (some ⟨b1, 0, none⟩) n cap1) (xs0 ++ 128 :: List.replicate (zs r) 0)) := by rw [← hzz]; exact HY1.out
          clear ht HY1 hzz HN
          obtain ⟨xs1, hx1⟩ : ∃ xs1, xs1 = xs0 ++ 128 :: List.replicate (zs r) 0 := ⟨_, rfl⟩
          rw [← hx1] at HY2
          have HN2 : Hid (xs1.length = n) := Lib.hid (by rw [hx1, HN1.out]; simp; omega)
          have HX1 := Lib.hid hx1
          clear hx1 HN1
          go_wp2
          obtain ⟨wq, rfl⟩ : ∃ wq : World, wq = wr := ⟨_, rfl⟩
          go_loopw [6, 8] (fun v i wr => ∃ (j n2 b2 cap2 : Nat), j ≤ 8 ∧ i = .int .i64 (56 - 8 * (j : Int)) ∧ v = .slice (some ⟨b2, 0, none⟩) n2 cap2 ∧ Hid (Byt wr w.heap.size w.heap.size (.slice (some ⟨b2, 0, none⟩) n2 cap2) (xs1 ++ lenb ((s.size : Int) * 8) j)) ∧ Hid (Sum wr w.heap.size C) ∧ Hid (Below w.heap.size w wr)) (fun _ i _ => (intOf i + 8).toNat)
          case atStart => exact ⟨0, n, b1, cap1, by omega, rfl, rfl, Lib.hid (by simpa [lenb] using HY2.out), HS2, HB2⟩
          case round =>
            clear HY2 HS2 HB2
            obtain ⟨j, n2, b2, cap2, hj, rfl, rfl, HY2, HS2, HB2⟩ := hrel
            by_cases hj8 : j < 8
            · have hsh := shift_shr .u64 .i64 ((s.size : Int) * 8) (56 - 8 * (j : Int)) (by omega) (by simp [IntKind.bits]; omega)
              rw [show (56 - 8 * (j : Int)).toNat = 56 - 8 * j by omega] at hsh
              go_wp2_with (at_builtin; refine Byt.append rfl (.tmp 54) (.tmp 59) 48 5 rfl Tryd.underlying48 info5 [_] 1 _ rfl rfl rfl rfl HY2.out HB2.out.size HS2.out.lt (by have := HN2.out; simp [lenb]; omega) (by omega) ?_; intro v3 w3 hY3 hw3; have HY3 := Lib.hid hY3; have HW3 := Lib.hid hw3; obtain ⟨b3, cap3, rfl⟩ := hY3.slice; clear hY3 hw3)
              go_roundw
              case rel => exact ⟨j + 1, _, b3, cap3, by omega, by go_num, rfl, Lib.hid (by have := HY3.out; simpa [lenb_succ] using this), HS2.out.of_row HW3.out.row, HW3.out.only _ HB2.out⟩
              case measure => simp [intOf]; omega
            · have hj8' : j = 8 := by omega
              have hdj : decide (8 * (j : Int) ≤ 56) = false := by simp; omega
              obtain ⟨xs2, hx2⟩ : ∃ xs2, xs2 = xs1 ++ lenb ((s.size : Int) * 8) 8 := ⟨_, rfl⟩
              have HY3 : Hid (Byt wr w.heap.size w.heap.size (.slice (some ⟨b2, 0, none⟩) n2 cap2) xs2) := by rw [hx2, ← hj8']; exact HY2.out
              have HP : Hid (pad s = xs2) := Lib.hid (by rw [hx2, HX1.out, ← HX0.out, HR.out]; rfl)
              have HL2 : Hid (xs2.length = n2 ∧ n2 = n + 8) := Lib.hid (by
                obtain ⟨b9, c9, e9, _⟩ := HY3.out
                have e1 : n2 = xs2.length := by injection e9
                rw [e1]
                refine ⟨rfl, ?_⟩
                rw [hx2, List.length_append, lenb_length, HN2.out])
              have HJ := Lib.hid hj8'
              clear hx2 hj8' HY2
              have hn64 : n2 % 64 = 0 := by have := HL2.out; have := HT2.out; omega
              have hn200 : n2 ≤ 136 := by have := HL2.out; omega
              have HN64 := Lib.hid hn64
              clear hn64
              go_wp2
              clear hn128
              obtain ⟨wq2, rfl⟩ : ∃ wq : World, wq = wr := ⟨_, rfl⟩
              have hq : n2 / 64 * 64 ≤ n2 := by omega
              go_loopw [9] (fun i wr => ∃ (q : Nat), q ≤ n2 / 64 ∧ i = .int .i64 (64 * (q : Int)) ∧ (∃ C' : Nat → Int, Hid (Sum wr w.heap.size C') ∧ Hid (∀ j, j < 8 → C' j = run (fun j => strOfNums ((xs2.drop (64 * j)).take 64)) C q j)) ∧ Hid (Byt wr w.heap.size w.heap.size (.slice (some ⟨b2, 0, none⟩) n2 cap2) xs2) ∧ Hid (Below w.heap.size w wr)) (fun i _ => n2 - (intOf i).toNat)
              case atStart => exact ⟨0, by omega, rfl, ⟨C, HS2, fun _ _ => rfl⟩, HY3, HB2⟩
              case round =>
                clear HS2 HY3 HB2
                obtain ⟨q, hq, rfl, ⟨C', HS2, HC2⟩, HY3, HB2⟩ := hrel
                by_cases hlt4 : q < n2 / 64
                · have w64 : IntKind.i64.wrap (64 * (q : Int) + 64) = 64 * (q : Int) + 64 := IntWalk.i64_in _ (by omega)
                  obtain ⟨hsl, hcv2⟩ := cut64 HY3.out q (by have := HN64.out; omega) HL2.out.1
                  have hdq : decide (64 * (q : Int) < (n2 : Int)) = true := by have := HN64.out; simp; omega
                  go_wp2_with (go_at_call 35; refine (block_calls _ C' (strOfNums ((xs2.drop (64 * q)).take 64)) (strOf64 (by have := HN64.out; have := HL2.out; omega)) wr (tab_below HT.out HB2.out) (Nat.ne_of_gt (tab_lt HT.out)) HS2.out).mono ?_; rintro e w1 ⟨rfl, hg1, C1, hS1, hC1⟩)
                  go_roundw
                  case rel => exact ⟨q + 1, by omega, by first | go_num | (congr 1; omega), ⟨C1, hS1, fun j hj => by rw [hC1 j hj, comp_congr ktab _ HC2.out j hj]; rfl⟩, HY3.out.only hg1, below_grown HB2.out hg1 HB2.out.size (Nat.le_refl _)⟩
                  case measure => simp [intOf]; omega
                · have hq' : q = n2 / 64 := by omega
                  have hdq : decide (64 * (q : Int) < (n2 : Int)) = false := by have := HN64.out; simp; omega
                  have HLT : Hid (w.heap.size < wr.heap.size) := Lib.hid HS2.out.lt
                  have hD : ∀ j, j < 8 → C' j = last s j := fun j hj => by
                    rw [HC2.out j hj, hq', last, run_congr _ HC'.out _ j hj, HP.out, HL2.out.1]
                  have HD := Lib.hid hD
                  clear hq' hD
                  have hu52 := Tryd.underlying52
                  obtain ⟨wz, rfl⟩ : ∃ wq : World, wq = wr := ⟨_, rfl⟩
                  have hmk : ∀ W, (Instr.makeSlice 48 (.int .i64 0) (.int .i64 32)).run Tryd.prog W = .ok (.slice (some ⟨W.heap.size, 0, none⟩) 0 32) (W.alloc (.cells (Array.replicate 32 (.int .u8 0)) 5)) := fun _ => by kernel_rfl
                  have HY4 : Hid (Byt (wz.alloc (.cells (Array.replicate 32 (.int .u8 0)) 5)) w.heap.size w.heap.size (.slice (some ⟨wz.heap.size, 0, none⟩) 0 32) []) := Lib.hid (Byt.made wz _ _ _ _ HB2.out.size HS2.out.lt)
                  have HB4 : Hid (Below w.heap.size w (wz.alloc (.cells (Array.replicate 32 (.int .u8 0)) 5))) := Lib.hid (HB2.out.alloc HB2.out.size _)
                  have HS4 : Hid (Sum (wz.alloc (.cells (Array.replicate 32 (.int .u8 0)) 5)) w.heap.size C') := Lib.hid (HS2.out.alloc _)
                  have hmk' := hmk wz
                  clear hmk
                  generalize wz.alloc (.cells (Array.replicate 32 (.int .u8 0)) 5) = wy at *
                  have d0 := HS4.out.cell 0 (by omega)
                  have d1 := HS4.out.cell 1 (by omega)
                  have d2 := HS4.out.cell 2 (by omega)
                  have d3 := HS4.out.cell 3 (by omega)
                  have d4 := HS4.out.cell 4 (by omega)
                  have d5 := HS4.out.cell 5 (by omega)
                  have d6 := HS4.out.cell 6 (by omega)
                  have d7 := HS4.out.cell 7 (by omega)
                  go_wp2
                  go_loopw [10, 77] (fun v i wr => ∃ (m n b cap : Nat), m ≤ 8 ∧ i = .int .i64 (m : Int) ∧ v = .slice (some ⟨b, 0, none⟩) n cap ∧ Hid (Byt wr w.heap.size w.heap.size (.slice (some ⟨b, 0, none⟩) n cap) (outs C' m)) ∧ Hid (w.heap.size < wr.heap.size) ∧ Hid (Below w.heap.size w wr)) (fun _ i _ => 8 - (intOf i).toNat)
                  case atStart => exact ⟨0, 0, _, 32, by omega, rfl, rfl, HY4, Lib.hid HS4.out.lt, HB4⟩
                  case round =>
                    clear HY4 HS4 HB4 d0 d1 d2 d3 d4 d5 d6 d7
                    obtain ⟨m, n3, b3, cap3, hm, rfl, rfl, HY5, HL5, HB5⟩ := hrel
                    by_cases hm8 : m < 8
                    · have hix := index8 C' m hm8
                      go_wp2_with (at_builtin; refine Byt.append rfl (.tmp 80) (.tmp 92) 48 5 rfl Tryd.underlying48 info5 [_, _, _, _] 4 _ rfl rfl rfl rfl HY5.out HB5.out.size HL5.out (by rw [outs_length]; omega) (by omega) ?_; intro v3 w3 hY3 hw3; have HY3 := Lib.hid hY3; have HW3 := Lib.hid hw3; obtain ⟨b3, cap3, rfl⟩ := hY3.slice; clear hY3 hw3)
                      go_roundw
                      case rel => exact ⟨m + 1, _, b3, cap3, by omega, by go_num, rfl, Lib.hid (by have := HY3.out; rw [outs_succ]; simpa [be4] using this), Lib.hid (Nat.lt_of_lt_of_le HL5.out HW3.out.size), HW3.out.only _ HB5.out⟩
                      case measure => simp [intOf]; omega
                    · have hm' : m = 8 := by omega
                      have hcv5 := Byt.string (P := Tryd.prog) HY5.out 48 9 5 Tryd.underlying48 Tryd.underlying5 Tryd.underlying9
                      have HM := Lib.hid hm'
                      clear hm'
                      go_wp2
                      go_ret
                      exact ⟨by rw [HM.out, digest, outs_congr HD.out 8 (Nat.le_refl _)]; rfl, HB5.out⟩
        · have hne : (((n : Int) % 64) != 56) = true := by simp; omega
          have hz2 : z + 1 ≤ zs r := by have := HN.out; have := HZ.out; omega
          clear ht
          go_wp2_with (at_builtin; refine Byt.append rfl (.tmp 43) (.tmp 44) 48 5 rfl Tryd.underlying48 info5 [0] 1 _ rfl rfl rfl rfl HY1.out HB2.out.size HS2.out.lt (by have := HN.out; have := HZ.out; simp [HLEN.out]; omega) (by omega) ?_; intro v2 w2 hY2 hw2; have HY2 := Lib.hid hY2; have HW2 := Lib.hid hw2; obtain ⟨b2, cap2, rfl⟩ := hY2.slice; clear hY2 hw2)
          go_roundw
          case rel => exact ⟨z + 1, xs0.length + (z + 1 + 1), b2, cap2, hz2, Lib.hid (by rw [HLEN.out]; omega), rfl, Lib.hid (by have := HY2.out; simpa [List.replicate_succ'] using this), HS2.out.of_row HW2.out.row, HW2.out.only _ HB2.out⟩
          case measure => have h1 := HN.out; have h2 := HLEN.out; simp only [lenOf]; omega
  -- TAIL
end Go.Proofs.YtkbknndlkjodpaaDoor.Sha
