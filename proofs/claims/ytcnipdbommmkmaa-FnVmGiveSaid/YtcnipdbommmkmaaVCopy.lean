/- bytCopy hands the same bytes back, in memory of its own. Condition: no more than memory can be asked for. -/
import Derived.Test.YtcnipdbommmkmaaProg
import Derived.Test.YtcnipdbommmkmaaVMore
import Derived.WalkKit
import Derived.Laws.CopyOwn
set_option linter.unusedVariables false
set_option linter.unusedSimpArgs false
namespace Go.Proofs.YtcnipdbommmkmaaCopy
open Go.RowKit Go.Proofs.YtcnipdbommmkmaaW.PrintWords

theorem infoU8 : (Try.prog.info? 5).map (fun i => (i.zero, i.size, i.bytes)) = some (some (.int .u8 0), 1, 1) := by kernel_rfl
theorem sizeU8 : (Try.prog.info? 5).map (·.size) = some 1 := by kernel_rfl
theorem made_rep (z : Value) (n : Nat) : madeCells #[z] n = (List.replicate n z).toArray := by
  apply Array.ext
  · simp [madeCells]
  · intro i h1 h2
    simp [madeCells, Nat.mod_one]
theorem splice_all {α : Type} (L cs : List α) (h : cs.length = L.length) : splice L 0 cs = cs := by
  unfold splice
  rw [List.take_zero, List.nil_append, Nat.zero_add, h, List.drop_length, List.append_nil]
/-- A slice of whole numbers that isn't empty: its address and its cells. -/
theorem read_cells {w : World} {k : IntKind} {A : Option Addr} {l : List Int} (hr : Kd.C (Kd.int k) w A l.length l) (h0 : 0 < l.length) : ∃ ad, A = some ad ∧ ∀ j v, (nums k l)[j]? = some v → w.cell? (ad.add j) = some v := by
  obtain ⟨ad, hA, hc⟩ := hr.2.2 h0
  refine ⟨ad, hA, fun j v hv => ?_⟩
  simp only [nums, List.getElem?_map, Option.map_eq_some_iff] at hv
  obtain ⟨x, hx, rfl⟩ := hv
  obtain ⟨c, _, hK, hcell⟩ := hc j x hx
  have hK' : c = [Value.int k x] := hK
  subst hK'
  have := hcell 0 _ rfl
  have e : (Kd.int k).sz = 1 := rfl
  rwa [e, Nat.mul_one, Nat.add_zero] at this
theorem nums_one (k : IntKind) (l : List Int) : ∀ v ∈ nums k l, v.oneCell' = true := by
  intro v hv
  obtain ⟨x, _, rfl⟩ := List.mem_map.1 hv
  rfl
theorem own_of_block {w : World} {base g n : Nat} {e : TypeId} {k : IntKind} {l : List Int} (hb : base ≤ g) (hn : n = l.length) (hm : n ≤ maxLen) (hg : w.heap[g]? = some (.cells (nums k l).toArray e (0, 0))) : Kd.R (Kd.int k) e w base (fun _ => True) (.slice (some ⟨g, 0, none⟩) n n) l := by
  subst hn
  refine Kd.R_of_own ⟨by simp [encs], .inr ⟨g, l.length, _, rfl, hb, hg, Nat.le_refl _, hm, by simp [nums], ?_⟩⟩ (fun _ _ => trivial)
  rw [Nat.mul_one]
  show List.take l.length (nums k l) = nums k l
  exact List.take_of_length_le (by simp [nums])

set_option maxHeartbeats 1000000 in
theorem copy_any (A : Option Addr) (c : Nat) (l r : List Int) (w : World) (hr : Kd.C (Kd.int .u8) w A l.length l) (hc : l.length ≤ c) (h : (if l.length ≤ 281474976710656 then some l else none) = some r) :
    Calls Try.prog 83 #[.slice A l.length c] w fun e w' => ∃ v, e = .returned v ∧ Kd.R (Kd.int .u8) 5 w' w.heap.size (fun _ => True) v r ∧ Below w.heap.size w w' := by
  by_cases hl : l.length ≤ 281474976710656
  · rw [if_pos hl] at h
    obtain rfl := Option.some.inj h
    clear h
    by_cases h0 : l.length = 0
    · obtain rfl := List.eq_nil_of_length_eq_zero h0
      clear hr hc hl h0
      go_enter Try.func83, Try.ntmps83
      go_wp2
      go_ret
      exact ⟨_, rfl, Kd.R_nil _ _ _ _ _, Below.refl _ _⟩
    · obtain ⟨ad, rfl, hcells⟩ := read_cells hr (by omega)
      have HC := Aside0.mk hcells
      have hmk := print_make 25 5 .u8 1 Try.underlying25 infoU8 (by decide) l.length (by omega)
      have t0 : ((l.length : Int) == 0) = false := by simpa using h0
      have HL := Aside0.mk hl
      have HZ := Aside0.mk hc
      obtain ⟨n, hn⟩ : ∃ n, n = l.length := ⟨_, rfl⟩
      rw [← hn] at hmk t0 ⊢
      have HN := Aside0.mk hn
      clear hr hcells hc hl hn h0
      go_enter Try.func83, Try.ntmps83
      go_wp2_with (with_reducible refine wpList_copy_splice rfl (.tmp 10) (.tmp 11) 25 25 rfl 5 Try.underlying25 sizeU8 (some ⟨w.heap.size, 0, none⟩) (some ad) n n n c rfl rfl w.heap.size 0 (List.replicate n (.int .u8 0)) 5 ?c1 (nums .u8 l) ?c2 ?c3 ?c4 (nums_one _ _) w.heap.size w ?c5 (Nat.le_refl _) ?_)
      case c1 => rw [← made_rep]; exact heap_alloc_new w _
      case c2 => rw [nums_length, ← HN.out]; simp
      case c3 => exact fun _ j v hv => pw_cell_below (below_alloc (Below.refl _ _) _) (HC.out j v hv)
      case c4 => rw [nums_length, ← HN.out]; simp
      case c5 => exact (Below.refl _ _).alloc (Nat.le_refl _) _
      intro w2 HG hB2
      go_wp2
      go_ret
      have hg2 := HG.out
      rw [splice_all _ _ (by rw [nums_length, ← HN.out]; simp)] at hg2
      exact ⟨_, rfl, own_of_block (Nat.le_refl _) HN.out (by have := HL.out; have := HN.out; unfold maxLen; omega) hg2, hB2⟩
  · rw [if_neg hl] at h
    exact absurd h (by simp)
end Go.Proofs.YtcnipdbommmkmaaCopy
