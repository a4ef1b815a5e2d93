/- The walks of object.Word and object.Kind, whatever the argument. -/
import Derived.Test.YtkbknndlkjodpaaDoorExt
import Derived.LoopTactic
namespace Go.Proofs.YtkbknndlkjodpaaDoor.FW
open Go Go.RowKit Go.Proofs.YtkbknndlkjodpaaDoorW.PrintWords Go.Proofs.YtkbknndlkjodpaaDoorW.PrintMore

/-- The table of kinds. -/
def kindv : Array Value := #[.int .i64 1, .string ⟨#[98, 108, 111, 98]⟩, .int .i64 2, .string ⟨#[116, 114, 101, 101]⟩, .int .i64 3, .string ⟨#[99, 111, 109, 109, 105, 116]⟩, .int .i64 4, .string ⟨#[116, 97, 103]⟩]
theorem kinds_calls (w : World) : Calls Tryd.prog 27 #[] w fun e w' => e = .returned (.agg kindv) ∧ Below w.heap.size w w' := by
  go_enter Tryd.func27, Tryd.ntmps27
  go_wp2
  exact bodyPost_ret (v := .agg kindv) (by simp [results, Tryd.results27, go_sem, kindv]) rfl ⟨rfl, (Below.refl _ _).alloc (Nat.le_refl _) _⟩

def object_Word.f (a0 : Int) : Option ByteArray := if a0 = 1 then (some (⟨#[98, 108, 111, 98]⟩ : ByteArray)) else (if a0 = 2 then (some (⟨#[116, 114, 101, 101]⟩ : ByteArray)) else (if a0 = 3 then (some (⟨#[99, 111, 109, 109, 105, 116]⟩ : ByteArray)) else (if a0 = 4 then (some (⟨#[116, 97, 103]⟩ : ByteArray)) else (some (⟨#[]⟩ : ByteArray)))))
set_option maxHeartbeats 2000000 in
set_option maxRecDepth 100000 in
theorem object_Word.calls (a0 : Int) (r : ByteArray) (w : World) (h : object_Word.f a0 = some r) :
    Calls Tryd.prog 14 #[.int .i64 a0] w fun e w' => e = .returned (.string r) ∧ Below w.heap.size w w' := by
  obtain ⟨b1, e1⟩ : ∃ b, ((1 : Int) == a0) = b := ⟨_, rfl⟩
  obtain ⟨b2, e2⟩ : ∃ b, ((2 : Int) == a0) = b := ⟨_, rfl⟩
  obtain ⟨b3, e3⟩ : ∃ b, ((3 : Int) == a0) = b := ⟨_, rfl⟩
  obtain ⟨b4, e4⟩ : ∃ b, ((4 : Int) == a0) = b := ⟨_, rfl⟩
  have hr : r = if b1 then ⟨#[98, 108, 111, 98]⟩ else if b2 then ⟨#[116, 114, 101, 101]⟩ else if b3 then ⟨#[99, 111, 109, 109, 105, 116]⟩ else if b4 then ⟨#[116, 97, 103]⟩ else ⟨#[]⟩ := by
    unfold object_Word.f at h
    rw [← e1, ← e2, ← e3, ← e4]
    simp only [beq_iff_eq]
    simp only [eq_comm (b := a0)]
    split at h
    · rename_i q; rw [if_pos q]; exact (Option.some.inj h).symm
    · rename_i q; rw [if_neg q]
      split at h
      · rename_i q; rw [if_pos q]; exact (Option.some.inj h).symm
      · rename_i q; rw [if_neg q]
        split at h
        · rename_i q; rw [if_pos q]; exact (Option.some.inj h).symm
        · rename_i q; rw [if_neg q]
          split at h
          · rename_i q; rw [if_pos q]; exact (Option.some.inj h).symm
          · rename_i q; rw [if_neg q]; exact (Option.some.inj h).symm
  have HR := Lib.hid hr
  clear hr h
  have hi0 : ∀ W, (Instr.index 46 (.agg #[.int .i64 1, .string ⟨#[98, 108, 111, 98]⟩, .int .i64 2, .string ⟨#[116, 114, 101, 101]⟩, .int .i64 3, .string ⟨#[99, 111, 109, 109, 105, 116]⟩, .int .i64 4, .string ⟨#[116, 97, 103]⟩]) (.int .i64 0)).run Tryd.prog W = .ok (.agg #[.int .i64 1, .string ⟨#[98, 108, 111, 98]⟩]) W := fun _ => by kernel_rfl
  have hi1 : ∀ W, (Instr.index 46 (.agg #[.int .i64 1, .string ⟨#[98, 108, 111, 98]⟩, .int .i64 2, .string ⟨#[116, 114, 101, 101]⟩, .int .i64 3, .string ⟨#[99, 111, 109, 109, 105, 116]⟩, .int .i64 4, .string ⟨#[116, 97, 103]⟩]) (.int .i64 1)).run Tryd.prog W = .ok (.agg #[.int .i64 2, .string ⟨#[116, 114, 101, 101]⟩]) W := fun _ => by kernel_rfl
  have hi2 : ∀ W, (Instr.index 46 (.agg #[.int .i64 1, .string ⟨#[98, 108, 111, 98]⟩, .int .i64 2, .string ⟨#[116, 114, 101, 101]⟩, .int .i64 3, .string ⟨#[99, 111, 109, 109, 105, 116]⟩, .int .i64 4, .string ⟨#[116, 97, 103]⟩]) (.int .i64 2)).run Tryd.prog W = .ok (.agg #[.int .i64 3, .string ⟨#[99, 111, 109, 109, 105, 116]⟩]) W := fun _ => by kernel_rfl
  have hi3 : ∀ W, (Instr.index 46 (.agg #[.int .i64 1, .string ⟨#[98, 108, 111, 98]⟩, .int .i64 2, .string ⟨#[116, 114, 101, 101]⟩, .int .i64 3, .string ⟨#[99, 111, 109, 109, 105, 116]⟩, .int .i64 4, .string ⟨#[116, 97, 103]⟩]) (.int .i64 3)).run Tryd.prog W = .ok (.agg #[.int .i64 4, .string ⟨#[116, 97, 103]⟩]) W := fun _ => by kernel_rfl
  go_enter Tryd.func14, Tryd.ntmps14
  go_wp2_with (go_at_call 27; refine (kinds_calls _).mono ?_; rintro e w1 ⟨rfl, hb1⟩; have HB1 := Lib.hid hb1; clear hb1; unfold kindv)
  refine wp_loop_rounds 5 ?_
  rw [rounds_succ]
  cases b1
  · cases b2
    · cases b3
      · cases b4
        all_goals
          go_wp2
          rw [rounds_succ]
          go_wp2
          rw [rounds_succ]
          go_wp2
          rw [rounds_succ]
          go_wp2
          try rw [rounds_succ]
          try go_wp2
          go_ret
          exact ⟨by rw [HR.out]; rfl, by repeat (first | exact HB1.out | apply below_alloc)⟩
      · go_wp2
        rw [rounds_succ]
        go_wp2
        rw [rounds_succ]
        go_wp2
        go_ret
        exact ⟨by rw [HR.out]; rfl, by repeat (first | exact HB1.out | apply below_alloc)⟩
    · go_wp2
      rw [rounds_succ]
      go_wp2
      go_ret
      exact ⟨by rw [HR.out]; rfl, by repeat (first | exact HB1.out | apply below_alloc)⟩
  · go_wp2
    go_ret
    exact ⟨by rw [HR.out]; rfl, by repeat (first | exact HB1.out | apply below_alloc)⟩

def object_Kind.f (a0 : ByteArray) : Option Int := if ([98, 108, 111, 98] : List UInt8) = a0.toList then some 1 else (if ([116, 114, 101, 101] : List UInt8) = a0.toList then some 2 else (if ([99, 111, 109, 109, 105, 116] : List UInt8) = a0.toList then some 3 else (if ([116, 97, 103] : List UInt8) = a0.toList then some 4 else some 0)))
set_option maxHeartbeats 2000000 in
set_option maxRecDepth 100000 in
theorem object_Kind.calls (a0 : ByteArray) (r : Int) (w : World) (h : object_Kind.f a0 = some r) :
    Calls Tryd.prog 16 #[.string a0] w fun e w' => e = .returned (.int .i64 r) ∧ Below w.heap.size w w' := by
  obtain ⟨b1, e1⟩ : ∃ b, (([98, 108, 111, 98] : List UInt8) == a0.toList) = b := ⟨_, rfl⟩
  obtain ⟨b2, e2⟩ : ∃ b, (([116, 114, 101, 101] : List UInt8) == a0.toList) = b := ⟨_, rfl⟩
  obtain ⟨b3, e3⟩ : ∃ b, (([99, 111, 109, 109, 105, 116] : List UInt8) == a0.toList) = b := ⟨_, rfl⟩
  obtain ⟨b4, e4⟩ : ∃ b, (([116, 97, 103] : List UInt8) == a0.toList) = b := ⟨_, rfl⟩
  have hr : r = if b1 then 1 else if b2 then 2 else if b3 then 3 else if b4 then 4 else 0 := by
    unfold object_Kind.f at h
    rw [← e1, ← e2, ← e3, ← e4]
    simp only [beq_iff_eq]
    split at h
    · rename_i q; rw [if_pos q]; exact (Option.some.inj h).symm
    · rename_i q; rw [if_neg q]
      split at h
      · rename_i q; rw [if_pos q]; exact (Option.some.inj h).symm
      · rename_i q; rw [if_neg q]
        split at h
        · rename_i q; rw [if_pos q]; exact (Option.some.inj h).symm
        · rename_i q; rw [if_neg q]
          split at h
          · rename_i q; rw [if_pos q]; exact (Option.some.inj h).symm
          · rename_i q; rw [if_neg q]; exact (Option.some.inj h).symm
  have HR := Lib.hid hr
  clear hr h
  have hi0 : ∀ W, (Instr.index 46 (.agg #[.int .i64 1, .string ⟨#[98, 108, 111, 98]⟩, .int .i64 2, .string ⟨#[116, 114, 101, 101]⟩, .int .i64 3, .string ⟨#[99, 111, 109, 109, 105, 116]⟩, .int .i64 4, .string ⟨#[116, 97, 103]⟩]) (.int .i64 0)).run Tryd.prog W = .ok (.agg #[.int .i64 1, .string ⟨#[98, 108, 111, 98]⟩]) W := fun _ => by kernel_rfl
  have hi1 : ∀ W, (Instr.index 46 (.agg #[.int .i64 1, .string ⟨#[98, 108, 111, 98]⟩, .int .i64 2, .string ⟨#[116, 114, 101, 101]⟩, .int .i64 3, .string ⟨#[99, 111, 109, 109, 105, 116]⟩, .int .i64 4, .string ⟨#[116, 97, 103]⟩]) (.int .i64 1)).run Tryd.prog W = .ok (.agg #[.int .i64 2, .string ⟨#[116, 114, 101, 101]⟩]) W := fun _ => by kernel_rfl
  have hi2 : ∀ W, (Instr.index 46 (.agg #[.int .i64 1, .string ⟨#[98, 108, 111, 98]⟩, .int .i64 2, .string ⟨#[116, 114, 101, 101]⟩, .int .i64 3, .string ⟨#[99, 111, 109, 109, 105, 116]⟩, .int .i64 4, .string ⟨#[116, 97, 103]⟩]) (.int .i64 2)).run Tryd.prog W = .ok (.agg #[.int .i64 3, .string ⟨#[99, 111, 109, 109, 105, 116]⟩]) W := fun _ => by kernel_rfl
  have hi3 : ∀ W, (Instr.index 46 (.agg #[.int .i64 1, .string ⟨#[98, 108, 111, 98]⟩, .int .i64 2, .string ⟨#[116, 114, 101, 101]⟩, .int .i64 3, .string ⟨#[99, 111, 109, 109, 105, 116]⟩, .int .i64 4, .string ⟨#[116, 97, 103]⟩]) (.int .i64 3)).run Tryd.prog W = .ok (.agg #[.int .i64 4, .string ⟨#[116, 97, 103]⟩]) W := fun _ => by kernel_rfl
  go_enter Tryd.func16, Tryd.ntmps16
  go_wp2_with (go_at_call 27; refine (kinds_calls _).mono ?_; rintro e w1 ⟨rfl, hb1⟩; have HB1 := Lib.hid hb1; clear hb1; unfold kindv)
  refine wp_loop_rounds 5 ?_
  rw [rounds_succ]
  cases b1
  · cases b2
    · cases b3
      · cases b4
        all_goals
          go_wp2
          rw [rounds_succ]
          go_wp2
          rw [rounds_succ]
          go_wp2
          rw [rounds_succ]
          go_wp2
          try rw [rounds_succ]
          try go_wp2
          go_ret
          exact ⟨by rw [HR.out]; rfl, by repeat (first | exact HB1.out | apply below_alloc)⟩
      · go_wp2
        rw [rounds_succ]
        go_wp2
        rw [rounds_succ]
        go_wp2
        go_ret
        exact ⟨by rw [HR.out]; rfl, by repeat (first | exact HB1.out | apply below_alloc)⟩
    · go_wp2
      rw [rounds_succ]
      go_wp2
      go_ret
      exact ⟨by rw [HR.out]; rfl, by repeat (first | exact HB1.out | apply below_alloc)⟩
  · go_wp2
    go_ret
    exact ⟨by rw [HR.out]; rfl, by repeat (first | exact HB1.out | apply below_alloc)⟩
end Go.Proofs.YtkbknndlkjodpaaDoor.FW
