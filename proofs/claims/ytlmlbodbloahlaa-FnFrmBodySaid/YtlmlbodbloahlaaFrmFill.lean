/- What FrmFill answers: a body of nine bytes, or nothing. Conditions: none. -/
import Derived.Test.YtlmlbodbloahlaaCopy
set_option linter.unusedVariables false
set_option linter.unusedSimpArgs false
namespace Go.Proofs.YtlmlbodbloahlaaFrmFill
open Go.RowKit Go.Proofs.YtlmlbodbloahlaaW.PrintWords Go.Proofs.YtlmlbodbloahlaaCopy

def fill (l : List Int) (real : Bool) : List Int :=
  if l.length ≤ 8 then (if real = true then ((l.length : Int) + 1) :: (l ++ List.replicate (8 - l.length) 0) else if l.length = 0 then List.replicate 9 0 else []) else []

set_option maxHeartbeats 1000000 in
theorem fill_any (A : Option Addr) (c : Nat) (l : List Int) (real : Bool) (w : World) (hr : Kd.C (Kd.int .u8) w A l.length l) (hc : l.length ≤ c) :
    Calls Try.prog 12 #[.slice A l.length c, .bool real] w fun e w' => ∃ v, e = .returned v ∧ Kd.R (Kd.int .u8) 5 w' w.heap.size (fun _ => True) v (fill l real) ∧ Below w.heap.size w w' := by
  have hmk : ∀ W : World, (Instr.makeSlice 22 (.int .i64 9) (.int .i64 9)).run Try.prog W = .ok (.slice (some ⟨W.heap.size, 0, none⟩) 9 9) (W.alloc (.cells #[.int .u8 0, .int .u8 0, .int .u8 0, .int .u8 0, .int .u8 0, .int .u8 0, .int .u8 0, .int .u8 0, .int .u8 0] 5)) := fun _ => by kernel_rfl
  by_cases h8 : l.length ≤ 8
  · cases real
    · by_cases h0 : l.length = 0
      · obtain rfl := List.eq_nil_of_length_eq_zero h0
        clear hr hc h8 h0
        go_enter Try.func12, Try.ntmps12
        go_wp2
        go_ret
        refine ⟨_, rfl, own_of_block (l := List.replicate 9 0) (Nat.le_refl _) rfl (by decide) ?_, (Below.refl _ _).alloc (Nat.le_refl _) _⟩
        exact heap_alloc_new w _
      · have e : fill l false = [] := by simp [fill, h0]
        rw [e]
        have HR := Aside0.mk hr
        have t1 : 0 < (l.length : Int) := by omega
        clear hr e h0 hmk
        go_enter Try.func12, Try.ntmps12
        go_wp2
        go_ret
        exact ⟨_, rfl, Kd.R_nil _ _ _ _ _, Below.refl _ _⟩
    · have HR := Aside0.mk hr
      clear hr
      have t8 : (l.length : Int) ≤ 8 := by omega
      go_enter Try.func12, Try.ntmps12
      have H8 := Aside0.mk h8
      have HC := Aside0.mk hc
      clear h8 hc
      go_wp2_with (first | (go_at_call 35; go_in) | (with_reducible refine wpList_copy_splice rfl (.tmp 27) (.tmp 28) 22 22 rfl 5 Try.underlying22 sizeU8 (some ⟨w.heap.size, 1, none⟩) A 8 8 l.length c rfl rfl w.heap.size 1 (.int .u8 ((l.length : Int) + 1) :: List.replicate 8 (.int .u8 0)) 5 ?c1 (nums .u8 l) ?c2 ?c3 ?c4 (nums_one _ _) w.heap.size w ?c5 (Nat.le_refl _) ?_))
      case c1 => exact heap_alloc_new w _
      case c2 =>
        rw [nums_length]
        exact (Nat.min_eq_left H8.out).symm
      case c3 =>
        intro hp
        rw [nums_length] at hp
        obtain ⟨ad, hA, hcells⟩ := read_cells HR.out hp
        exact ⟨ad, hA, fun j v hv => pw_cell_below (below_alloc (Below.refl _ _) _) (hcells j v hv)⟩
      case c4 =>
        rw [nums_length]
        have := H8.out
        simp
        omega
      case c5 => exact (Below.refl _ _).alloc (Nat.le_refl _) _
      intro w2 HG hB2
      go_wp2
      go_ret
      have h8 := H8.out
      have hg2 := HG.out
      have e : splice (.int .u8 ((l.length : Int) + 1) :: List.replicate 8 (.int .u8 0)) 1 (nums .u8 l) = nums .u8 (fill l true) := by
        unfold fill splice
        rw [if_pos h8, if_pos rfl, nums_length]
        simp [nums, Nat.add_comm 1 l.length]
        exact (List.drop_replicate (n := 8) (i := l.length) (a := Value.int .u8 0))
      have hg3 : w2.heap[w.heap.size]? = some (.cells (nums .u8 (fill l true)).toArray 5 (0, 0)) := by
        rw [← e]
        exact hg2
      exact ⟨_, rfl, own_of_block (Nat.le_refl _) (by unfold fill; rw [if_pos h8, if_pos rfl]; simp; omega) (by decide) hg3, hB2⟩
  · have e : fill l real = [] := by simp [fill, h8]
    rw [e]
    have HR := Aside0.mk hr
    have t1 : ¬ (l.length : Int) ≤ 8 := by omega
    clear hr e h8 hmk
    go_enter Try.func12, Try.ntmps12
    go_wp2
    go_ret
    exact ⟨_, rfl, Kd.R_nil _ _ _ _ _, Below.refl _ _⟩
end Go.Proofs.YtlmlbodbloahlaaFrmFill
