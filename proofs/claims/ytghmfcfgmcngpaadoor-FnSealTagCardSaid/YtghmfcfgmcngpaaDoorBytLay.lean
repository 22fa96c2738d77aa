/- What (*bytRow).lay leaves: a number as bytes, the greatest first. Conditions: four bytes at most, the row is nil. -/
import Derived.Test.YtghmfcfgmcngpaaDoorProg
import Derived.Test.YtghmfcfgmcngpaaDoorWMore
import Derived.WalkKit
import Derived.RegionTactic
import Derived.Deep.RegionLaw
import Derived.Deep.AppendLies
import Derived.KernelRfl
set_option linter.unusedVariables false
set_option linter.unusedSimpArgs false
namespace Go.Proofs.YtghmfcfgmcngpaaDoorBytLay
open Go.RowKit Go.Proofs.YtghmfcfgmcngpaaDoorW.PrintWords

theorem infoU8 : (Tryd.prog.info? 5).map (fun i => (i.zero, i.size, i.bytes)) = some (some (.int .u8 0), 1, 1) := by kernel_rfl
/-- n as s bytes, the greatest first. -/
def putL (n : Int) (s : Nat) : List Int := (List.range s).map fun k => n / 256 ^ (s - 1 - k) % 256
theorem putL_length (n : Int) (s : Nat) : (putL n s).length = s := by simp [putL]
theorem putL_step (n : Int) (s j : Nat) (h0 : 0 < j) (h1 : j ≤ s) : (putL n s).take (s - (j - 1)) = (putL n s).take (s - j) ++ [n / 256 ^ (j - 1) % 256] := by
  have e : s - (j - 1) = (s - j) + 1 := by omega
  rw [e, List.take_succ_eq_append_getElem (by rw [putL_length]; omega)]
  congr 1
  simp [putL]
  congr 3
  omega
theorem nums_snoc (l : List Int) (x : Int) : nums .u8 l ++ [.int .u8 x] = nums .u8 (l ++ [x]) := by simp [nums]

def LayRel (n : Int) (s g : Nat) (w : World) (j : Nat) (wr : World) : Prop :=
  ∃ v, wr.heap[g]? = some (.cells #[v] 48 (0, 0)) ∧ wr.ownsRow (g + 1) 5 1 v (s - j) (nums .u8 ((putL n s).take (s - j))) ∧ Below g w wr

theorem lay_close {n x : Int} {s j g gg cap m : Nat} (h0 : 1 ≤ j) (h1 : j ≤ s) (hm : m = s - j + 1) {w wr w1 : World} {v : Value} {o : Obj} (HB : Below g w wr) (HV : wr.heap[g]? = some (.cells #[v] 48 (0, 0))) (HO : wr.ownsRow (g + 1) 5 1 v (s - j) (nums .u8 ((putL n s).take (s - j))))
    (hgrow : (wr.alloc o).drew.grownBy w1 v.ownBlock) (hown1 : w1.ownsRow (g + 1) 5 1 (.slice (some ⟨gg, 0, none⟩) (s - j + 1) cap) (s - j + 1) (nums .u8 ((putL n s).take (s - j)) ++ [.int .u8 x]))
    (HS : (putL n s).take (s - (j - 1)) = (putL n s).take (s - j) ++ [x]) : LayRel n s g w (j - 1) (w1.setCell ⟨g, 0, none⟩ (.slice (some ⟨gg, 0, none⟩) m cap)) := by
  subst hm
  have hlt := blk_lt HV
  have hne : some g ≠ v.ownBlock := fun e => by
    have := own_base HO g e.symm
    omega
  have hv1 := blk_grown (blk_drew (blk_alloc HV o)) hgrow hne
  have hne1 : some g ≠ (Value.slice (some ⟨gg, 0, none⟩) (s - j + 1) cap).ownBlock := fun e => by
    have := own_base hown1 g e.symm
    omega
  refine ⟨_, blk_set hv1 0 _, ?_, ?_⟩
  · rw [HS, show s - (j - 1) = s - j + 1 by omega, ← nums_snoc]
    exact own_setCell hown1 hne1 _
  · have hb1 : Below g w (wr.alloc o).drew := below_drew1 (HB.alloc (by omega) _)
    refine (hb1.grown hgrow (by simp; omega) (fun k hk => ?_)).setCell (p := ⟨g, 0, none⟩) (Nat.le_refl _) _
    have := own_base HO k hk
    omega

set_option maxRecDepth 100000 in
set_option maxHeartbeats 4000000 in
theorem lay_any (n : Int) (s g : Nat) (hs : s ≤ 4) (hn0 : 0 ≤ n) (hn1 : n ≤ 4294967295) (w : World) (hg : w.heap[g]? = some (.cells #[.slice none 0 0] 48 (0, 0))) :
    Calls Tryd.prog 37 #[.pointer (some ⟨g, 0, none⟩), .int .i64 n, .int .i64 s] w fun e w' => (∃ v, e = .returned v) ∧ LayRel n s g w 0 w' := by
  obtain ⟨i0, hi0, hz0, hz1, hz2⟩ := info_parts infoU8
  have HI := Aside0.mk hi0
  clear hi0
  go_enter Tryd.func37, Tryd.ntmps37
  go_wp2
  go_loopw [6] (fun i wr => ∃ j : Nat, j ≤ s ∧ i = .int .i64 ((j : Int) - 1) ∧ LayRel n s g w j wr) (fun i _ => (intOf i + 1).toNat)
  case atStart => 
    refine ⟨s, Nat.le_refl _, rfl, .slice none 0 0, hg, ?_, Below.refl _ _⟩
    rw [Nat.sub_self]
    exact own_nil _ _ _ _
  case round =>
    obtain ⟨j, hj, rfl, v, hv, hown, hB⟩ := hrel
    have hc := blk_cell hv 0
    have hfz := blk_frozen hv 0
    have hlt := blk_lt hv
    obtain ⟨A, c, rfl⟩ := own_slice hown
    have hne : some g ≠ (Value.slice A (s - j) c).ownBlock := fun e => by
      have := own_base hown g e.symm
      omega
    have HOWN := Aside0.mk hown
    have HB := Aside0.mk hB
    have HV := Aside0.mk hv
    have HNE := Aside0.mk hne
    clear hown hB hv hne
    have hc' : wr.cell? ⟨g, 0, none⟩ = some (.slice A (s - j) c) := hc
    clear hc
    have hs5 : s ≤ 5 := by omega
    have hj5 : j = 0 ∨ j = 1 ∨ j = 2 ∨ j = 3 ∨ j = 4 := by omega
    clear hs
    obtain rfl | rfl | rfl | rfl | rfl := hj5
    · go_wp2
      go_end0
      exact ⟨⟨_, rfl⟩, _, HV.out, HOWN.out, HB.out⟩
    · have HS : Aside0 ((putL n s).take (s - 0) = (putL n s).take (s - 1) ++ [IntKind.u8.wrap n]) := ⟨by have := putL_step n s 1 (by omega) (by omega); rw [show IntKind.u8.wrap n = n % 256 by rw [IntKind.wrap_u8]]; simpa using this⟩
      have hw : IntKind.i64.wrap 0 = 0 := by decide
      go_wp2
      go_region_law ((refine step_append_lies _ (by rfl) _ _ _ (by rfl) (g + 1) 5 i0 _ 1 1 Tryd.underlying48 HI.out hz0 hz1 hz2 rfl (by omega) _ _ _ (by rfl) ((HOWN.out.alloc _).drew) ⟨wr.heap.size, 0, none⟩ 1 1 [.int .u8 (IntKind.u8.wrap n)] (by rfl) (by rfl) (World.news_of_block (cs := #[.int .u8 (IntKind.u8.wrap n)]) (t := 5) (fr := (0, 0)) (heap_alloc_new wr _)) (by simp [Value.oneCell']) (by omega) (by unfold maxLen; omega) (by omega) (by simp; omega) (wr.heap.size + 1) (by simp) ?_; intro gg cap w1 hown1 hgrow hat hlt1; have hv1 := blk_grown (blk_drew (blk_alloc HV.out _)) hgrow HNE.out; have hf1 := blk_frozen hv1 0; have hcc1 := blk_cell hv1 0))
      all_goals go_wp2
      all_goals exact ⟨⟨0, by omega, rfl, lay_close (j := 1) (by omega) (by omega) (by omega) HB.out HV.out HOWN.out hgrow hown1 HS.out⟩, by decide⟩
    · have HS : Aside0 ((putL n s).take (s - 1) = (putL n s).take (s - 2) ++ [IntKind.u8.wrap (n / 256)]) := ⟨by have := putL_step n s 2 (by omega) (by omega); rw [show IntKind.u8.wrap (n / 256) = n / 256 % 256 by rw [IntKind.wrap_u8]]; simpa using this⟩
      have hw : IntKind.i64.wrap 8 = 8 := by decide
      go_wp2
      go_region_law ((refine step_append_lies _ (by rfl) _ _ _ (by rfl) (g + 1) 5 i0 _ 1 1 Tryd.underlying48 HI.out hz0 hz1 hz2 rfl (by omega) _ _ _ (by rfl) ((HOWN.out.alloc _).drew) ⟨wr.heap.size, 0, none⟩ 1 1 [.int .u8 (IntKind.u8.wrap (n / 256))] (by rfl) (by rfl) (World.news_of_block (cs := #[.int .u8 (IntKind.u8.wrap (n / 256))]) (t := 5) (fr := (0, 0)) (heap_alloc_new wr _)) (by simp [Value.oneCell']) (by omega) (by unfold maxLen; omega) (by omega) (by simp; omega) (wr.heap.size + 1) (by simp) ?_; intro gg cap w1 hown1 hgrow hat hlt1; have hv1 := blk_grown (blk_drew (blk_alloc HV.out _)) hgrow HNE.out; have hf1 := blk_frozen hv1 0; have hcc1 := blk_cell hv1 0))
      all_goals go_wp2
      all_goals exact ⟨⟨1, by omega, rfl, lay_close (j := 2) (by omega) (by omega) (by omega) HB.out HV.out HOWN.out hgrow hown1 HS.out⟩, by decide⟩
    · have HS : Aside0 ((putL n s).take (s - 2) = (putL n s).take (s - 3) ++ [IntKind.u8.wrap (n / 65536)]) := ⟨by have := putL_step n s 3 (by omega) (by omega); rw [show IntKind.u8.wrap (n / 65536) = n / 65536 % 256 by rw [IntKind.wrap_u8]]; simpa using this⟩
      have hw : IntKind.i64.wrap 16 = 16 := by decide
      go_wp2
      go_region_law ((refine step_append_lies _ (by rfl) _ _ _ (by rfl) (g + 1) 5 i0 _ 1 1 Tryd.underlying48 HI.out hz0 hz1 hz2 rfl (by omega) _ _ _ (by rfl) ((HOWN.out.alloc _).drew) ⟨wr.heap.size, 0, none⟩ 1 1 [.int .u8 (IntKind.u8.wrap (n / 65536))] (by rfl) (by rfl) (World.news_of_block (cs := #[.int .u8 (IntKind.u8.wrap (n / 65536))]) (t := 5) (fr := (0, 0)) (heap_alloc_new wr _)) (by simp [Value.oneCell']) (by omega) (by unfold maxLen; omega) (by omega) (by simp; omega) (wr.heap.size + 1) (by simp) ?_; intro gg cap w1 hown1 hgrow hat hlt1; have hv1 := blk_grown (blk_drew (blk_alloc HV.out _)) hgrow HNE.out; have hf1 := blk_frozen hv1 0; have hcc1 := blk_cell hv1 0))
      all_goals go_wp2
      all_goals exact ⟨⟨2, by omega, rfl, lay_close (j := 3) (by omega) (by omega) (by omega) HB.out HV.out HOWN.out hgrow hown1 HS.out⟩, by decide⟩
    · have HS : Aside0 ((putL n s).take (s - 3) = (putL n s).take (s - 4) ++ [IntKind.u8.wrap (n / 16777216)]) := ⟨by have := putL_step n s 4 (by omega) (by omega); rw [show IntKind.u8.wrap (n / 16777216) = n / 16777216 % 256 by rw [IntKind.wrap_u8]]; simpa using this⟩
      have hw : IntKind.i64.wrap 24 = 24 := by decide
      go_wp2
      go_region_law ((refine step_append_lies _ (by rfl) _ _ _ (by rfl) (g + 1) 5 i0 _ 1 1 Tryd.underlying48 HI.out hz0 hz1 hz2 rfl (by omega) _ _ _ (by rfl) ((HOWN.out.alloc _).drew) ⟨wr.heap.size, 0, none⟩ 1 1 [.int .u8 (IntKind.u8.wrap (n / 16777216))] (by rfl) (by rfl) (World.news_of_block (cs := #[.int .u8 (IntKind.u8.wrap (n / 16777216))]) (t := 5) (fr := (0, 0)) (heap_alloc_new wr _)) (by simp [Value.oneCell']) (by omega) (by unfold maxLen; omega) (by omega) (by simp; omega) (wr.heap.size + 1) (by simp) ?_; intro gg cap w1 hown1 hgrow hat hlt1; have hv1 := blk_grown (blk_drew (blk_alloc HV.out _)) hgrow HNE.out; have hf1 := blk_frozen hv1 0; have hcc1 := blk_cell hv1 0))
      all_goals go_wp2
      all_goals exact ⟨⟨3, by omega, rfl, lay_close (j := 4) (by omega) (by omega) (by omega) HB.out HV.out HOWN.out hgrow hown1 HS.out⟩, by decide⟩

end Go.Proofs.YtghmfcfgmcngpaaDoorBytLay
