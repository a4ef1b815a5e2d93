/- The walk of the digest's block: it computes the plain rounds, where the row, the table and the text are as said. -/
import Derived.Test.YtkbknndlkjodpaaDoorShaSpec
import Derived.Deep.QuietTactic
import Derived.BigQuiet
import Derived.LoopTactic
import Derived.StillTailTactics
import Derived.Laws.Rows
import Derived.Lib.LaidTab
import Derived.Test.YtkbknndlkjodpaaDoorWMore
namespace Go.Proofs.YtkbknndlkjodpaaDoor.Sha
open Go Go.RowKit Go.Proofs.YtkbknndlkjodpaaDoorW.PrintWords Go.Proofs.YtkbknndlkjodpaaDoorW.PrintMore

/-- K(0) to K(63). -/
def ktab : List Int := [1116352408, 1899447441, 3049323471, 3921009573, 961987163, 1508970993, 2453635748, 2870763221, 3624381080, 310598401, 607225278, 1426881987, 1925078388, 2162078206, 2614888103, 3248222580, 3835390401, 4022224774, 264347078, 604807628, 770255983, 1249150122, 1555081692, 1996064986, 2554220882, 2821834349, 2952996808, 3210313671, 3336571891, 3584528711, 113926993, 338241895, 666307205, 773529912, 1294757372, 1396182291, 1695183700, 1986661051, 2177026350, 2456956037, 2730485921, 2820302411, 3259730800, 3345764771, 3516065817, 3600352804, 4094571909, 275423344, 430227734, 506948616, 659060556, 883997877, 958139571, 1322822218, 1537002063, 1747873779, 1955562222, 2024104815, 2227730452, 2361852424, 2428436474, 2756734187, 3204031479, 3329325298]
theorem gTable : Tryd.prog.globalNamed "graftage/ident.table" = some 0 := by kernel_rfl

theorem tab_cell {w w1 : World} {g : Nat} (hT : Lib.TabIs Tryd.prog w "graftage/ident.table" .u32 ktab) (hg0 : g ≠ 0) (hG : w.grownBy w1 (some g)) (t : Nat) (ht : t < 64) :
    w1.cell? ⟨0, t, none⟩ = some (.int .u32 (ktab.getD t 0)) := by
  have h2 := hT.cell gTable t ht
  rw [World.cell?_of_block (hG.block 0 (World.block_lt_of_cell? w _ h2) (by simpa using hg0.symm))]
  exact h2
set_option maxHeartbeats 4000000 in
set_option maxRecDepth 100000 in
theorem block_calls (g : Nat) (C : Nat → Int) (b : ByteArray) (hb : b.size = 64) (w : World) (hT : Lib.TabIs Tryd.prog w "graftage/ident.table" .u32 ktab) (hg0 : g ≠ 0) (hS : Sum w g C) :
    Calls Tryd.prog 35 #[.pointer (some ⟨g, 0, none⟩), .string b] w fun e w' => e = .returned (.tuple #[]) ∧ w.grownBy w' (some g) ∧ ∃ C', Sum w' g C' ∧ ∀ j, j < 8 → C' j = comp ktab b C j := by
  have HT := Lib.hid hT
  have hb' := Lib.hid hb
  have HS := Lib.hid hS
  clear hb hS hT
  go_enter Tryd.func35, Tryd.ntmps35
  go_wp2
  go_loopw [21] (fun i wr => ∃ k : Nat, k ≤ 16 ∧ i = .int .i64 k ∧ (∃ C' : Nat → Int, Hid (Sum wr g C') ∧ Hid (∀ j, C' j = if 8 ≤ j ∧ j < 8 + k then W4 b (j - 8) else C j)) ∧ Hid (w.grownBy wr (some g))) (fun i _ => 16 - (intOf i).toNat)
  case atStart => exact ⟨0, by omega, rfl, ⟨C, HS, fun j => by rw [if_neg (by omega)]⟩, only_refl _ _⟩
  case round =>
    obtain ⟨k, hk, rfl, ⟨C', HS1, HC1⟩, HG⟩ := hrel
    by_cases hlt : k < 16
    · have hz := hb'.out
      have p0 := eq_true (show (0 : Int) ≤ 4 * (k : Int) by omega)
      have x0 := bt_at b (4 * (k : Int))
      have p1 := eq_true (show (0 : Int) ≤ 4 * (k : Int) + 1 by omega)
      have x1 := bt_at b (4 * (k : Int) + 1)
      have p2 := eq_true (show (0 : Int) ≤ 4 * (k : Int) + 2 by omega)
      have x2 := bt_at b (4 * (k : Int) + 2)
      have p3 := eq_true (show (0 : Int) ≤ 4 * (k : Int) + 3 by omega)
      have x3 := bt_at b (4 * (k : Int) + 3)
      have q0 := eq_true (show 4 * (k : Int) < (b.size : Int) by omega)
      have q1 := eq_true (show 4 * (k : Int) + 1 < (b.size : Int) by omega)
      have q2 := eq_true (show 4 * (k : Int) + 2 < (b.size : Int) by omega)
      have q3 := eq_true (show 4 * (k : Int) + 3 < (b.size : Int) by omega)
      have w0 : IntKind.i64.wrap (4 * (k : Int)) = 4 * k := IntWalk.i64_in _ (by omega)
      have w1 : IntKind.i64.wrap (4 * (k : Int) + 1) = 4 * k + 1 := IntWalk.i64_in _ (by omega)
      have w2 : IntKind.i64.wrap (4 * (k : Int) + 2) = 4 * k + 2 := IntWalk.i64_in _ (by omega)
      have w3 : IntKind.i64.wrap (4 * (k : Int) + 3) = 4 * k + 3 := IntWalk.i64_in _ (by omega)
      have pk := eq_true (show (0 : Int) ≤ (k : Int) by omega)
      have qk := eq_true (show (k : Int) < 64 by omega)
      have hu53 := Tryd.underlying53
      clear hz
      go_wp2
      go_still_tail 33, (by kernel_rfl)
      have hcell := HS1.out.cell (8 + k) (by omega)
      have hfree := HS1.out.free (8 + k) (by omega)
      go_wp2
      go_roundw
      case rel => exact ⟨k + 1, by omega, by go_num, ⟨upd C' (8 + k) (W4 b k), (HS1.out.set _ _).drew, first_step HC1.out⟩, only_drew (only_setCell HG.out (.inl rfl) _)⟩
      case measure => simp [intOf]; omega
    · have hd16 : decide ((k : Int) < 16) = false := by simp; omega
      go_wp2
      go_loopw [6] (fun i wr => ∃ k : Nat, 16 ≤ k ∧ k ≤ 64 ∧ i = .int .i64 k ∧ (∃ C' : Nat → Int, Hid (Sum wr g C') ∧ Hid (∀ j, C' j = if 8 ≤ j ∧ j < 8 + k then sch b (j - 8) else C j)) ∧ Hid (w.grownBy wr (some g))) (fun i _ => 64 - (intOf i).toNat)
      case atStart => exact ⟨16, by omega, by omega, rfl, ⟨C', HS1, first_end HC1.out (by omega)⟩, HG⟩
      case round =>
        clear HS1 HC1 HG
        obtain ⟨k, hk16, hk, rfl, ⟨C', HS1, HC1⟩, HG⟩ := hrel
        by_cases hlt : k < 64
        · have w15 : IntKind.i64.wrap ((k : Int) - 15) = ((k - 15 : Nat) : Int) := by rw [IntWalk.i64_in _ (by omega)]; omega
          have w2 : IntKind.i64.wrap ((k : Int) - 2) = ((k - 2 : Nat) : Int) := by rw [IntWalk.i64_in _ (by omega)]; omega
          have w7 : IntKind.i64.wrap ((k : Int) - 7) = ((k - 7 : Nat) : Int) := by rw [IntWalk.i64_in _ (by omega)]; omega
          have w16 : IntKind.i64.wrap ((k : Int) - 16) = ((k - 16 : Nat) : Int) := by rw [IntWalk.i64_in _ (by omega)]; omega
          have q15 := eq_true (show ((k - 15 : Nat) : Int) < 64 by omega)
          have q2 := eq_true (show ((k - 2 : Nat) : Int) < 64 by omega)
          have q7 := eq_true (show ((k - 7 : Nat) : Int) < 64 by omega)
          have q16 := eq_true (show ((k - 16 : Nat) : Int) < 64 by omega)
          have qk := eq_true (show (k : Int) < 64 by omega)
          have c15 := HS1.out.cell (8 + (k - 15)) (by omega)
          have c2 := HS1.out.cell (8 + (k - 2)) (by omega)
          have hu53 := Tryd.underlying53
          go_wp2
          go_quiet (fail)
          go_wp2
          refine wp_region_still_tail 35 (by kernel_rfl) (by kernel_rfl) ?_
          obtain ⟨w2, hw2⟩ : ∃ w2 : World, w2 = { (wr.drewN nq) with drawn := (wr.drewN nq).drawn + 1 } := ⟨_, rfl⟩
          rw [← hw2]
          have HS2 : Hid (Sum w2 g C') := by rw [hw2]; exact (HS1.out.drewN nq).drew
          have HG2 : Hid (w.grownBy w2 (some g)) := by rw [hw2]; exact only_drew (only_drewN HG.out nq)
          clear HS1 HG hw2
          have hcell := HS2.out.cell (8 + k) (by omega)
          have hfree := HS2.out.free (8 + k) (by omega)
          have c7 := HS2.out.cell (8 + (k - 7)) (by omega)
          have c16 := HS2.out.cell (8 + (k - 16)) (by omega)
          simp only [List.take_succ_cons, List.take_zero, List.drop_succ_cons, List.drop_zero]
          repeat (first | still_step | (refine wpStill_step (fun K hK => ?_); go_simp; refine ⟨_, turn_calls _ _ (by decide) (by decide) _, hK _ ?_⟩; clear hK K))
          try refine wpStill_nil ?_
          go_wp2
          go_roundw
          case rel => exact ⟨k + 1, by omega, by omega, by go_num, ⟨_, HS2.out.set _ _, sch_step hk16 HC1.out⟩, only_setCell HG2.out (.inl rfl) _⟩
          case measure => simp [intOf]; omega
        · obtain ⟨HS2, HG2⟩ : Hid (Sum wr g fun j => if 8 ≤ j ∧ j < 72 then sch b (j - 8) else C j) ∧ Hid (w.grownBy wr (some g)) := ⟨by
            have e : k = 64 := by omega
            have : C' = fun j => if 8 ≤ j ∧ j < 72 then sch b (j - 8) else C j := by funext j; rw [HC1.out j, e]
            rw [← this]; exact HS1.out, HG⟩
          clear HS1 HC1 HG
          generalize hC2 : (fun j => if 8 ≤ j ∧ j < 72 then sch b (j - 8) else C j) = C2 at *
          have HC2 := Lib.hid hC2
          clear hC2
          obtain ⟨wo, rfl⟩ : ∃ wo : World, wo = wr := ⟨_, rfl⟩
          have d0 := HS2.out.cell 0 (by omega)
          have d1 := HS2.out.cell 1 (by omega)
          have d2 := HS2.out.cell 2 (by omega)
          have d3 := HS2.out.cell 3 (by omega)
          have d4 := HS2.out.cell 4 (by omega)
          have d5 := HS2.out.cell 5 (by omega)
          have d6 := HS2.out.cell 6 (by omega)
          have d7 := HS2.out.cell 7 (by omega)
          have hu52 := Tryd.underlying52
          have hd64 : decide ((k : Int) < 64) = false := by simp; omega
          go_wp2
          have HV0 := Lib.hid (Vec.lit wo C2 52)
          have HS3 := Lib.hid (HS2.out.alloc (.cells #[.int .u32 (C2 0), .int .u32 (C2 1), .int .u32 (C2 2), .int .u32 (C2 3), .int .u32 (C2 4), .int .u32 (C2 5), .int .u32 (C2 6), .int .u32 (C2 7)] 52))
          have HG3 := Lib.hid (only_alloc HG2.out (.cells #[.int .u32 (C2 0), .int .u32 (C2 1), .int .u32 (C2 2), .int .u32 (C2 3), .int .u32 (C2 4), .int .u32 (C2 5), .int .u32 (C2 6), .int .u32 (C2 7)] 52))
          have hgv : wo.heap.size ≠ g := fun e => by have := World.block_lt_of_cell? wo _ (HS2.out.cell 0 (by omega)); simp at this; omega
          have hgw : w.heap.size ≤ wo.heap.size := HG2.out.size
          clear d0 d1 d2 d3 d4 d5 d6 d7
          go_loopw [113] (fun i w' => ∃ k : Nat, k ≤ 64 ∧ i = .int .i64 k ∧ Hid (Sum w' g C2) ∧ Hid (Vec w' wo.heap.size (rnds ktab b C2 k)) ∧ Hid (w.grownBy w' (some g))) (fun i _ => 64 - (intOf i).toNat)
          case atStart => exact ⟨0, by omega, rfl, HS3, HV0, HG3⟩
          case round =>
            clear HS2 HG2 HS3 HV0 HG3
            obtain ⟨t, ht, rfl, HS2, HV, HG2⟩ := hrel
            by_cases hlt3 : t < 64
            · generalize hV : rnds ktab b C2 t = V at *
              have HVE := Lib.hid hV
              clear hV
              have v0 := HV.out.cell 0 (by omega)
              have v1 := HV.out.cell 1 (by omega)
              have v2 := HV.out.cell 2 (by omega)
              have v3 := HV.out.cell 3 (by omega)
              have v4 := HV.out.cell 4 (by omega)
              have v5 := HV.out.cell 5 (by omega)
              have v6 := HV.out.cell 6 (by omega)
              have v7 := HV.out.cell 7 (by omega)
              have hu53 := Tryd.underlying53
              have pt := eq_true (show (0 : Int) ≤ (t : Int) by omega)
              have qt := eq_true (show (t : Int) < 64 by omega)
              go_wp2
              go_still (by kernel_rfl)
              obtain ⟨w2, hw2⟩ : ∃ w2 : World, w2 = { wr with drawn := wr.drawn + 1 } := ⟨_, rfl⟩
              rw [← hw2]
              have HS3 : Hid (Sum w2 g C2) := by rw [hw2]; exact HS2.out.drew
              have HV3 : Hid (Vec w2 wo.heap.size V) := by rw [hw2]; exact HV.out.drew
              have HG3 : Hid (w.grownBy w2 (some g)) := by rw [hw2]; exact only_drew HG2.out
              clear HS2 HV HG2 v0 v1 v2 v3 v4 v5 v6 v7 hw2
              have v0 := HV3.out.cell 0 (by omega)
              have v1 := HV3.out.cell 1 (by omega)
              have v2 := HV3.out.cell 2 (by omega)
              have v3 := HV3.out.cell 3 (by omega)
              have v4 := HV3.out.cell 4 (by omega)
              have v5 := HV3.out.cell 5 (by omega)
              have v6 := HV3.out.cell 6 (by omega)
              have v7 := HV3.out.cell 7 (by omega)
              go_wp2
              refine wp_region_still_lit (by kernel_rfl) (by kernel_rfl) ?_
              obtain ⟨w3, hw3⟩ : ∃ w3 : World, w3 = { w2 with drawn := w2.drawn + 1 } := ⟨_, rfl⟩
              rw [← hw3]
              have HS4 : Hid (Sum w3 g C2) := by rw [hw3]; exact HS3.out.drew
              have HV4 : Hid (Vec w3 wo.heap.size V) := by rw [hw3]; exact HV3.out.drew
              have HG4 : Hid (w.grownBy w3 (some g)) := by rw [hw3]; exact only_drew HG3.out
              clear HS3 HV3 HG3 v0 v1 v2 v3 v4 v5 v6 v7 hw3
              have v0 := HV4.out.cell 0 (by omega)
              have v1 := HV4.out.cell 1 (by omega)
              have v2 := HV4.out.cell 2 (by omega)
              have v3 := HV4.out.cell 3 (by omega)
              have v4 := HV4.out.cell 4 (by omega)
              have v5 := HV4.out.cell 5 (by omega)
              have v6 := HV4.out.cell 6 (by omega)
              have v7 := HV4.out.cell 7 (by omega)
              have f0 := HV4.out.free 0 (by omega)
              have f1 := HV4.out.free 1 (by omega)
              have f2 := HV4.out.free 2 (by omega)
              have f3 := HV4.out.free 3 (by omega)
              have f4 := HV4.out.free 4 (by omega)
              have f5 := HV4.out.free 5 (by omega)
              have f6 := HV4.out.free 6 (by omega)
              have f7 := HV4.out.free 7 (by omega)
              have wc := HS4.out.cell (8 + t) (by omega)
              have tc : w3.cell? ⟨0, t, none⟩ = some (.int .u32 (ktab.getD t 0)) := tab_cell HT.out hg0 HG4.out t (by omega)
              generalize hKt : ktab.getD t 0 = Kt at *
              have HKt := Lib.hid hKt
              clear hKt
              repeat (first | still_step | (refine wpStill_step (fun K hK => ?_); go_simp; refine ⟨_, turn_calls _ _ (by decide) (by decide) _, hK _ ?_⟩; clear hK K))
              try refine wpStill_nil ?_
              go_wp2_with (go_at_call 45; refine (turn_calls _ _ (by decide) (by decide) _).mono ?_; rintro e w' ⟨rfl, rfl⟩)
              go_roundw
              case rel =>
                refine ⟨t + 1, by omega, by go_num, ?_, ?_, ?_⟩
                · exact HS4.out.set8 hgv _ _ _ _ _ _ _ _
                · rw [rnds_step hlt3 HC2.out HVE.out HKt.out]
                  exact HV4.out.set8 _ _ _ _ _ _ _ _
                · exact only_set8 HG4.out hgw _ _ _ _ _ _ _ _
              case measure => simp [intOf]; omega
            · generalize hV : rnds ktab b C2 t = V at *
              have HVE := Lib.hid hV
              clear hV
              have hdt : decide ((t : Int) < 64) = false := by simp; omega
              obtain ⟨wq, rfl⟩ : ∃ wq : World, wq = wr := ⟨_, rfl⟩
              go_wp2
              go_loopw [196] (fun i wr => ∃ k : Nat, k ≤ 8 ∧ i = .int .i64 k ∧ (∃ C' : Nat → Int, Hid (Sum wr g C') ∧ Hid (∀ j, C' j = if j < k then (C2 j + V j) % 4294967296 else C2 j)) ∧ Hid (Vec wr wo.heap.size V) ∧ Hid (w.grownBy wr (some g))) (fun i _ => 8 - (intOf i).toNat)
              case atStart => exact ⟨0, by omega, rfl, ⟨C2, HS2, fun j => by rw [if_neg (by omega)]⟩, HV, HG2⟩
              case round =>
                clear HS2 HG2 HV
                obtain ⟨q, hq, rfl, ⟨C3, HS2, HC3⟩, HV, HG2⟩ := hrel
                by_cases hlt4 : q < 8
                · have cq := HS2.out.cell q (by omega)
                  have fq := HS2.out.free q (by omega)
                  have vq := HV.out.cell q (by omega)
                  have pq := eq_true (show (0 : Int) ≤ (q : Int) by omega)
                  have qq := eq_true (show (q : Int) < 8 by omega)
                  go_wp2
                  refine wp_region_still_tail 13 (by kernel_rfl) (by kernel_rfl) ?_
                  obtain ⟨w2, hw2⟩ : ∃ w2 : World, w2 = { wr with drawn := wr.drawn + 1 } := ⟨_, rfl⟩
                  rw [← hw2]
                  have HS3 : Hid (Sum w2 g C3) := by rw [hw2]; exact HS2.out.drew
                  have HV3 : Hid (Vec w2 wo.heap.size V) := by rw [hw2]; exact HV.out.drew
                  have HG3 : Hid (w.grownBy w2 (some g)) := by rw [hw2]; exact only_drew HG2.out
                  clear HS2 HV HG2 hw2 cq fq vq
                  have cq := HS3.out.cell q (by omega)
                  have fq := HS3.out.free q (by omega)
                  have vq := HV3.out.cell q (by omega)
                  simp only [List.take_succ_cons, List.take_zero, List.drop_succ_cons, List.drop_zero]
                  repeat still_step
                  try refine wpStill_nil ?_
                  go_wp2
                  go_roundw
                  case rel => exact ⟨q + 1, by omega, by go_num, ⟨_, HS3.out.set _ _, fin_step hlt4 HC3.out⟩, HV3.out.far (p := ⟨g, q, none⟩) (Ne.symm hgv) _, only_setCell HG3.out (.inl rfl) _⟩
                  case measure => simp [intOf]; omega
                · have hdq : decide ((q : Int) < 8) = false := by simp; omega
                  go_wp2
                  go_end0
                  exact ⟨rfl, HG2.out, C3, HS2.out, fin_comp (by omega) (by omega) HC2.out HVE.out HC3.out⟩
end Go.Proofs.YtkbknndlkjodpaaDoor.Sha
