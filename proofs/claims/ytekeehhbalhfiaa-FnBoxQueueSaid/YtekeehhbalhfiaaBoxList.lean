/- The ring of messages: list tells all in order. Conditions: what the ring's cells hold. -/
import Derived.Test.YtekeehhbalhfiaaBoxPut1
import Derived.RegionTactic
import Derived.Deep.RegionLaw
import Derived.Deep.AppendLies
set_option linter.unusedVariables false
set_option linter.unusedSimpArgs false
namespace Go.Proofs.YtekeehhbalhfiaaBoxList
open Go.RowKit Go.Proofs.YtekeehhbalhfiaaW.PrintWords Go.Proofs.YtekeehhbalhfiaaBoxPut1

theorem infoS : (Try.prog.info? 22).map (fun i => (i.zero, i.size, i.bytes)) = some (some (.slice none 0 0), 1, 24) := by kernel_rfl
def vals (us : List Sl) : List Value := us.map Sl.v
/-- The ring's cells: us from f on. -/
def Holds (cs : Array Value) (f : Nat) (us : List Sl) : Prop := cs[4]? = some (.int .i64 (f : Int)) ∧ cs[5]? = some (.int .i64 (us.length : Int)) ∧ ∀ k s, us[k]? = some s → cs[(f + k) % 4]? = some s.v

theorem slot_eq (f k : Nat) (h : f + k < 100) : (IntKind.i64.wrap ((f : Int) + (k : Int))).tmod 4 = (((f + k) % 4 : Nat) : Int) := by
  rw [Go.Proofs.YtekeehhbalhfiaaPl.wraps_i64 _ (by omega) (by omega), Int.tmod_eq_emod_of_nonneg (by omega)]
  omega

set_option maxRecDepth 100000 in
set_option maxHeartbeats 4000000 in
theorem list_any (g f : Nat) (us : List Sl) (cs : Array Value) (hf : f ≤ 1) (hm : us.length ≤ 4) (w : World) (hg : w.heap[g]? = some (.cells cs 61 (0, 0))) (hh : Holds cs f us) :
    Calls Try.prog 37 #[.pointer (some ⟨g, 0, none⟩)] w fun e w' => ∃ v, e = .returned v ∧ w'.ownsRow w.heap.size 22 1 v us.length (vals us) ∧ Below w.heap.size w w' := by
  obtain ⟨i0, hi0, hz0, hz1, hz2⟩ := info_parts infoS
  have HI := Aside0.mk hi0
  clear hi0
  have h5 : w.cell? ⟨g, 5, none⟩ = some (.int .i64 (us.length : Int)) := (blk_cell hg 5).trans hh.2.1
  have h4 : w.cell? ⟨g, 4, none⟩ = some (.int .i64 (f : Int)) := (blk_cell hg 4).trans hh.1
  have HG := Aside0.mk hg
  have HH := Aside0.mk hh
  clear hg hh
  obtain ⟨m, hm'⟩ : ∃ m, m = us.length := ⟨_, rfl⟩
  rw [← hm'] at hm h5 ⊢
  have HM := Aside0.mk hm'
  have H4 := Aside0.mk h4
  clear hm' h4
  go_enter Try.func37, Try.ntmps37
  go_wp2
  go_loopw [3, 9] (fun v i wr => ∃ k : Nat, k ≤ m ∧ i = .int .i64 k ∧ Aside0 (wr.ownsRow w.heap.size 22 1 v k ((vals us).take k)) ∧ Aside0 (Below w.heap.size w wr)) (fun _ i _ => m - (intOf i).toNat)
  case atStart => exact ⟨0, Nat.zero_le _, rfl, ⟨own_nil _ _ _ _⟩, ⟨Below.refl _ _⟩⟩
  case round =>
    obtain ⟨k, hk, rfl, HO, HB⟩ := hrel
    by_cases hlt : k < m
    · have hlt' : k < us.length := by rw [← HM.out]; exact hlt
      obtain ⟨A9, c9, rfl⟩ := own_slice HO.out
      have hG := blk_below HG.out HB.out
      have hx : wr.cell? ⟨g, (f + k) % 4, none⟩ = some (Sl.v us[k]) := (blk_cell hG _).trans (HH.out.2.2 k us[k] (List.getElem?_eq_getElem hlt'))
      have h4 : wr.cell? ⟨g, 4, none⟩ = some (.int .i64 (f : Int)) := (blk_cell hG 4).trans HH.out.1
      have hsl := slot_eq f k (by omega)
      have hp4 : (((f + k) % 4 : Nat) : Int) < 4 := by omega
      have hp0 : 0 ≤ (((f + k) % 4 : Nat) : Int) := by omega
      have HS : Aside0 ((vals us).take (k + 1) = (vals us).take k ++ [Sl.v us[k]]) := ⟨by
        rw [List.take_succ_eq_append_getElem (by simpa [vals] using hlt')]
        simp [vals]⟩
      generalize us[k] = s at *
      obtain ⟨A, n, c⟩ := s
      generalize (f + k) % 4 = p at *
      change wr.cell? ⟨g, p, none⟩ = some (.slice A n c) at hx
      change Aside0 ((vals us).take (k + 1) = (vals us).take k ++ [.slice A n c]) at HS
      clear hG
      go_wp2
      go_region_law ((refine step_append_lies _ (by rfl) _ _ _ (by rfl) w.heap.size 22 i0 _ 1 24 Try.underlying23 HI.out hz0 hz1 hz2 rfl (by omega) _ _ _ (by rfl) ((HO.out.alloc _).drew) ⟨wr.heap.size, 0, none⟩ 1 1 [.slice A n c] (by rfl) (by rfl) (World.news_of_block (cs := #[.slice A n c]) (t := 22) (fr := (0, 0)) (heap_alloc_new wr _)) (by simp [Value.oneCell']) (by omega) (by unfold maxLen; omega) (by omega) (by simp; have := HB.out.size; omega) (wr.heap.size + 1) (by simp) ?_; intro gg cap w1 hown1 hgrow hat hlt1))
      all_goals have hb1 : Below w.heap.size w (wr.alloc (.cells #[.slice A n c] 22)).drew := below_drew1 (HB.out.alloc (by have := HB.out.size; omega) _)
      all_goals have hb2 : Below w.heap.size w w1 := hb1.grown hgrow (by have := HB.out.size; simp; omega) (fun k hk => own_base HO.out k hk)
      all_goals have HB2 := Aside0.mk hb2
      all_goals rw [← HS.out] at hown1
      all_goals have HO2 := Aside0.mk hown1
      all_goals clear hb1 hb2 hown1 hgrow hat hlt1
      all_goals go_wp2
      all_goals exact ⟨⟨k + 1, by omega, by go_num, HO2, HB2⟩, by simp [intOf]; omega⟩
    · obtain rfl : k = m := by omega
      go_wp2
      go_ret
      have ho := HO.out
      rw [List.take_of_length_le (by simp [vals]; have := HM.out; omega)] at ho
      exact ⟨_, rfl, ho, HB.out⟩
end Go.Proofs.YtekeehhbalhfiaaBoxList
