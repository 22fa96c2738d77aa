/- Functions that a law reaches, each with the walk that shows what its call answers; laid by a program of this session. -/
import Derived.Test.YtaohaebgpbagmaaPFnHrdRisesx0
import Derived.Test.YtaohaebgpbagmaaPFnHrdRisesx1
import Derived.Test.YtaohaebgpbagmaaPFnHrdRisesx4
namespace Go.Proofs.Ytaohaebgpbagmaa.PFnHrdRises
open Go.RowKit Go.Proofs.YtaohaebgpbagmaaW.PrintWords Go.Proofs.YtaohaebgpbagmaaW.PrintLast Go.Proofs.YtaohaebgpbagmaaW.PrintMore
attribute [local go_sem] max2_int min2_int max_two min_two max_three min_three max_four min_four   -- for this text's walks alone
set_option linter.unusedVariables false
set_option linter.unusedSimpArgs false

open Go.Proofs.YtaohaebgpbagmaaAl
/-! ### spec_HrdHear: function 27 -/
mutual
def spec_HrdHear.j0 : Nat → Int → Int → Int → Bool → List Int → List Int → Option (List Int × List Int × Int)
 | 0, _, _, _, _, _, _ => none
 | k + 1, x1, x2, x3, x33, x140000, x140001 => if x33 = true then (some (([] : List Int), ([] : List Int), 0)) else ((spec_l13Copy.f x140000 x140001).bind fun bt145 => (if 0 ≤ x1 then (if x1 < (bt145.1.length : Int) then (if x2 > (rd bt145.1 x1) then (if 1 < 3 then (if x1 < (bt145.2.length : Int) then (some ((bt145.1.set (x1 : Int).toNat x2), (bt145.2.set (x1 : Int).toNat x3), 1)) else (none)) else (some (bt145.1, bt145.2, 1))) else (if x2 = (rd bt145.1 x1) then (if x1 < (bt145.2.length : Int) then (spec_HrdHear.j1 k x1 x2 x3 3 (decide (x3 > (rd bt145.2 x1))) bt145.1 bt145.2) else (none)) else (spec_HrdHear.j1 k x1 x2 x3 3 false bt145.1 bt145.2))) else (none)) else (none)))
def spec_HrdHear.j1 : Nat → Int → Int → Int → Int → Bool → List Int → List Int → Option (List Int × List Int × Int)
 | 0, _, _, _, _, _, _, _ => none
 | k + 1, x1, x2, x3, x11, x59, x152000, x152001 => if x59 = true then (if 2 < 3 then (if 0 ≤ x1 then (if x1 < (x152000.length : Int) then (if x1 < (x152001.length : Int) then (some ((x152000.set (x1 : Int).toNat x2), (x152001.set (x1 : Int).toNat x3), 2)) else (none)) else (none)) else (none)) else (some (x152000, x152001, 2))) else (if x11 < 3 then (if 0 ≤ x1 then (if x1 < (x152000.length : Int) then (if x1 < (x152001.length : Int) then (some ((x152000.set (x1 : Int).toNat x2), (x152001.set (x1 : Int).toNat x3), x11)) else (none)) else (none)) else (none)) else (some (x152000, x152001, x11)))
end
def spec_HrdHear.f (k : Nat) (l0_0 : List Int) (l0_1 : List Int) (a1 : Int) (a2 : Int) (a3 : Int) : Option (List Int × List Int × Int) := (spec_HrdOk.f k l0_0 l0_1).bind fun t141 => (if t141 = true then ((spec_l1In.f a1 0 (wrap64 ((l0_0.length : Int) - 1))).bind fun t142 => (if t142 = true then ((spec_l1In.f a2 1 60000).bind fun t143 => (if t143 = true then ((spec_l1In.f a3 0 60000).bind fun t144 => (spec_HrdHear.j0 k a1 a2 a3 (!t144) l0_0 l0_1)) else (spec_HrdHear.j0 k a1 a2 a3 true l0_0 l0_1))) else (spec_HrdHear.j0 k a1 a2 a3 true l0_0 l0_1))) else (spec_HrdHear.j0 k a1 a2 a3 true l0_0 l0_1))
theorem spec_HrdHear.mono_l : ∀ k, (∀ y0 y1 y2 y3 y4 y5, LeO (spec_HrdHear.j0 k y0 y1 y2 y3 y4 y5) (spec_HrdHear.j0 (k + 1) y0 y1 y2 y3 y4 y5)) ∧ (∀ y0 y1 y2 y3 y4 y5 y6, LeO (spec_HrdHear.j1 k y0 y1 y2 y3 y4 y5 y6) (spec_HrdHear.j1 (k + 1) y0 y1 y2 y3 y4 y5 y6))
 | 0 => ⟨fun _ _ _ _ _ _ r h => by simp [spec_HrdHear.j0] at h, fun _ _ _ _ _ _ _ r h => by simp [spec_HrdHear.j1] at h⟩
 | k + 1 => by
  obtain ⟨ih0, ih1⟩ := spec_HrdHear.mono_l k
  refine ⟨?_, ?_⟩
  ·intro y0 y1 y2 y3 y4 y5
   unfold spec_HrdHear.j0
   repeat' first
   | (with_reducible exact ih0 _ _ _ _ _ _)
   | (with_reducible exact ih1 _ _ _ _ _ _ _)
   | (with_reducible exact spec_HrdOk.mono _ _ _)
   | (with_reducible exact LeO.refl _)
   | (with_reducible exact LeO.none _)
   | (with_reducible refine LeO.ite ?_ ?_)
   | (with_reducible refine LeO.bind ?_ (fun _ => ?_))
   | exact ih0 _ _ _ _ _ _
   | exact ih1 _ _ _ _ _ _ _
   | exact spec_HrdOk.mono _ _ _
   | exact LeO.none _
   | refine LeO.ite ?_ ?_
   | refine LeO.bind ?_ (fun _ => ?_)
  ·intro y0 y1 y2 y3 y4 y5 y6
   unfold spec_HrdHear.j1
   repeat' first
   | (with_reducible exact ih0 _ _ _ _ _ _)
   | (with_reducible exact ih1 _ _ _ _ _ _ _)
   | (with_reducible exact spec_HrdOk.mono _ _ _)
   | (with_reducible exact LeO.refl _)
   | (with_reducible exact LeO.none _)
   | (with_reducible refine LeO.ite ?_ ?_)
   | (with_reducible refine LeO.bind ?_ (fun _ => ?_))
   | exact ih0 _ _ _ _ _ _
   | exact ih1 _ _ _ _ _ _ _
   | exact spec_HrdOk.mono _ _ _
   | exact LeO.none _
   | refine LeO.ite ?_ ?_
   | refine LeO.bind ?_ (fun _ => ?_)
theorem spec_HrdHear.mono : ∀ a0 a1 a2 a3 a4 k, LeO (spec_HrdHear.f k a0 a1 a2 a3 a4) (spec_HrdHear.f (k + 1) a0 a1 a2 a3 a4) := by
 intro a0 a1 a2 a3 a4 k
 obtain ⟨ih0, ih1⟩ := spec_HrdHear.mono_l k
 unfold spec_HrdHear.f
 repeat' first
   | (with_reducible exact ih0 _ _ _ _ _ _)
   | (with_reducible exact ih1 _ _ _ _ _ _ _)
   | (with_reducible exact spec_HrdOk.mono _ _ _)
   | (with_reducible exact LeO.refl _)
   | (with_reducible exact LeO.none _)
   | (with_reducible refine LeO.ite ?_ ?_)
   | (with_reducible refine LeO.bind ?_ (fun _ => ?_))
   | exact ih0 _ _ _ _ _ _
   | exact ih1 _ _ _ _ _ _ _
   | exact spec_HrdOk.mono _ _ _
   | exact LeO.none _
   | refine LeO.ite ?_ ?_
   | refine LeO.bind ?_ (fun _ => ?_)
set_option maxHeartbeats 8000000 in
set_option maxRecDepth 100000 in
theorem spec_HrdHear.calls (k : Nat) (A0_0 : Option Addr) (c0_0 : Nat) (l0_0 : List Int) (A0_1 : Option Addr) (c0_1 : Nat) (l0_1 : List Int) (a1 : Int) (a2 : Int) (a3 : Int) (r1 : List Int) (r2 : List Int) (r3 : Int) (w : World) (hr0_0 : Kd.C (Kd.int .i64) w A0_0 l0_0.length l0_0) (hc0_0 : l0_0.length ≤ c0_0) (hr0_1 : Kd.C (Kd.int .i64) w A0_1 l0_1.length l0_1) (hc0_1 : l0_1.length ≤ c0_1) (h : spec_HrdHear.f k l0_0 l0_1 a1 a2 a3 = some (r1, r2, r3)) :
  Calls Try.prog 27 #[.agg #[.slice A0_0 l0_0.length c0_0, .slice A0_1 l0_1.length c0_1], .int .i64 a1, .int .i64 a2, .int .i64 a3] w fun e w' => ∃ v0_ v1_ : Value, e = .returned (.tuple #[.agg #[v0_, v1_], .int .i64 r3]) ∧ Kd.R (Kd.int .i64) 3 w' w.heap.size (fun k_ => some k_ ≠ (v1_ : Value).ownBlock) v0_ r1 ∧ Kd.R (Kd.int .i64) 3 w' w.heap.size (fun k_ => some k_ ≠ (v0_ : Value).ownBlock) v1_ r2 ∧ Below w.heap.size w w' := by
 have hu37 := Try.underlying37
 have HR0_0 := qM hr0_0
 have HC0_0 := qM hc0_0
 clear hr0_0 hc0_0
 have HR0_1 := qM hr0_1
 have HC0_1 := qM hc0_1
 clear hr0_1 hc0_1
 have HB := qM (Below.refl w.heap.size w)
 have H : ((spec_HrdOk.f k l0_0 l0_1).bind fun t141 => (if t141 = true then ((spec_l1In.f a1 0 (wrap64 ((l0_0.length : Int) - 1))).bind fun t142 => (if t142 = true then ((spec_l1In.f a2 1 60000).bind fun t143 => (if t143 = true then ((spec_l1In.f a3 0 60000).bind fun t144 => (spec_HrdHear.j0 k a1 a2 a3 (!t144) l0_0 l0_1)) else (spec_HrdHear.j0 k a1 a2 a3 true l0_0 l0_1))) else (spec_HrdHear.j0 k a1 a2 a3 true l0_0 l0_1))) else (spec_HrdHear.j0 k a1 a2 a3 true l0_0 l0_1))) = some (r1, r2, r3) := h
 clear h
 have HC5 := qM H
 clear H
 go_enter Try.func27, Try.ntmps27
 go_upto_region 1 with (first | ((with_reducible refine gate_dst (N := 4) rfl ?_); (try (refine gate_guard (by rfl) ?_; dsimp only)); refine box_event ?hg (N := 4) ?hd (cs := #[.slice A0_0 l0_0.length c0_0, .slice A0_1 l0_1.length c0_1]) (t := 37) ?hr ?_; (case hd => rfl); (case hg => rfl); (case hr => first | (go_simp; done) | (go_simp; rfl)); intro gb139 hg w6 hbox hb; have n0_ := qM (below_step (by repeat (first | (with_reducible first | exact HB.out | apply yA | apply yN | apply yD) | exact HB.out)) hb); have n1_ := qM (hbox); have n2_ := qM ((by rw [hg]; exact (below_size (by repeat (first | (with_reducible first | exact HB.out | apply yA | apply yN | apply yD) | exact HB.out))) : w.heap.size ≤ gb139)); have n3_ := qM ((by rw [hg]; exact (below_size (by repeat (first | (with_reducible first | exact HB.out | apply yA | apply yN | apply yD) | exact HB.out))) : w.heap.size ≤ gb139)); clear HB; have HB := n0_; have BK139 := n1_; have GW139 := n2_; have GE139 := n3_; clear n0_ n1_ n2_ n3_; clear hb hbox hg) | ((with_reducible refine gate_dst (N := 8) rfl ?_); (try (refine gate_guard (by rfl) ?_; dsimp only)); refine box_event ?hg (N := 8) ?hd (cs := #[.slice none 0 0, .slice none 0 0]) (t := 37) ?hr ?_; (case hd => rfl); (case hg => rfl); (case hr => first | (go_simp; done) | (go_simp; rfl)); intro gb140 hg w7 hbox hb; have n0_ := qM (blk_below (g := gb139) (o := .cells #[.slice A0_0 l0_0.length c0_0, .slice A0_1 l0_1.length c0_1] 37 (0, 0)) (by (with_reducible repeat (first | refine zN ?_ _ | refine zD ?_ | refine zA ?_ _)); exact BK139.out) hb); have n1_ := qM (below_step (by repeat (first | (with_reducible first | exact HB.out | apply yA | apply yN | apply yD | refine yS ?_ GE139.out) | exact HB.out)) hb); have n2_ := qM (hbox); have n3_ := qM ((by rw [hg]; exact (below_size (by repeat (first | (with_reducible first | exact HB.out | apply yA | apply yN | apply yD | refine yS ?_ GE139.out) | exact HB.out))) : w.heap.size ≤ gb140)); have n4_ := qM ((by rw [hg]; exact (below_size (by repeat (first | (with_reducible first | exact HB.out | apply yA | apply yN | apply yD | refine yS ?_ GE139.out) | exact HB.out))) : w.heap.size ≤ gb140)); have n5_ := qM ((by rw [hg]; exact Nat.ne_of_lt (blk_lt (g := gb139) (o := .cells #[.slice A0_0 l0_0.length c0_0, .slice A0_1 l0_1.length c0_1] 37 (0, 0)) (by (with_reducible repeat (first | refine zN ?_ _ | refine zD ?_ | refine zA ?_ _)); exact BK139.out)) : gb139 ≠ gb140)); have n6_ := qM ((by rw [hg]; exact Nat.ne_of_gt (blk_lt (g := gb139) (o := .cells #[.slice A0_0 l0_0.length c0_0, .slice A0_1 l0_1.length c0_1] 37 (0, 0)) (by (with_reducible repeat (first | refine zN ?_ _ | refine zD ?_ | refine zA ?_ _)); exact BK139.out)) : gb140 ≠ gb139)); clear BK139; clear HB; have BK139 := n0_; have HB := n1_; have BK140 := n2_; have GW140 := n3_; have GE140 := n4_; have NB139_140 := n5_; have NB140_139 := n6_; clear n0_ n1_ n2_ n3_ n4_ n5_ n6_; clear hb hbox hg))
 (try simp only [Act.put, List.setIfInBounds_toArray, List.set_cons_zero, List.set_cons_succ])
 go_cut [33] (fun v33 wc => ∃ (kq : Nat) (x33_4 : Bool), v33 = .bool x33_4 ∧ Aside0 (spec_HrdHear.j0 kq a1 a2 a3 x33_4 l0_0 l0_1 = some (r1, r2, r3)) ∧ Aside0 (kq ≤ k) ∧ Aside0 (wc.heap[gb139]? = some (.cells #[(.slice A0_0 l0_0.length c0_0), (.slice A0_1 l0_1.length c0_1)] 37 (0, 0))) ∧ Aside0 (wc.heap[gb140]? = some (.cells #[(.slice none 0 0), (.slice none 0 0)] 37 (0, 0))) ∧ Aside0 (Below w.heap.size w wc))
 case first =>
  have H := HC5.out
  clear HC5
  replace H := Option.bind_eq_some_iff.mp H
  obtain ⟨t141, A80, H⟩ := H
  replace H : (if t141 = true then ((spec_l1In.f a1 0 (wrap64 ((l0_0.length : Int) - 1))).bind fun t142 => (if t142 = true then ((spec_l1In.f a2 1 60000).bind fun t143 => (if t143 = true then ((spec_l1In.f a3 0 60000).bind fun t144 => (spec_HrdHear.j0 k a1 a2 a3 (!t144) l0_0 l0_1)) else (spec_HrdHear.j0 k a1 a2 a3 true l0_0 l0_1))) else (spec_HrdHear.j0 k a1 a2 a3 true l0_0 l0_1))) else (spec_HrdHear.j0 k a1 a2 a3 true l0_0 l0_1)) = some (r1, r2, r3) := H
  have A8 := qM A80
  clear A80
  by_cases c9 : t141 = true
  ·subst c9
   have H1 : ((spec_l1In.f a1 0 (wrap64 ((l0_0.length : Int) - 1))).bind fun t142 => (if t142 = true then ((spec_l1In.f a2 1 60000).bind fun t143 => (if t143 = true then ((spec_l1In.f a3 0 60000).bind fun t144 => (spec_HrdHear.j0 k a1 a2 a3 (!t144) l0_0 l0_1)) else (spec_HrdHear.j0 k a1 a2 a3 true l0_0 l0_1))) else (spec_HrdHear.j0 k a1 a2 a3 true l0_0 l0_1))) = some (r1, r2, r3) := by rw [if_pos rfl] at H; exact H
   clear H
   have H := H1
   clear H1
   replace H := Option.bind_eq_some_iff.mp H
   obtain ⟨t142, A100, H⟩ := H
   replace H : (if t142 = true then ((spec_l1In.f a2 1 60000).bind fun t143 => (if t143 = true then ((spec_l1In.f a3 0 60000).bind fun t144 => (spec_HrdHear.j0 k a1 a2 a3 (!t144) l0_0 l0_1)) else (spec_HrdHear.j0 k a1 a2 a3 true l0_0 l0_1))) else (spec_HrdHear.j0 k a1 a2 a3 true l0_0 l0_1)) = some (r1, r2, r3) := H
   have A10 := qM A100
   clear A100
   by_cases c11 : t142 = true
   ·subst c11
    have H1 : ((spec_l1In.f a2 1 60000).bind fun t143 => (if t143 = true then ((spec_l1In.f a3 0 60000).bind fun t144 => (spec_HrdHear.j0 k a1 a2 a3 (!t144) l0_0 l0_1)) else (spec_HrdHear.j0 k a1 a2 a3 true l0_0 l0_1))) = some (r1, r2, r3) := by rw [if_pos rfl] at H; exact H
    clear H
    have H := H1
    clear H1
    replace H := Option.bind_eq_some_iff.mp H
    obtain ⟨t143, A120, H⟩ := H
    replace H : (if t143 = true then ((spec_l1In.f a3 0 60000).bind fun t144 => (spec_HrdHear.j0 k a1 a2 a3 (!t144) l0_0 l0_1)) else (spec_HrdHear.j0 k a1 a2 a3 true l0_0 l0_1)) = some (r1, r2, r3) := H
    have A12 := qM A120
    clear A120
    by_cases c13 : t143 = true
    ·subst c13
     have H1 : ((spec_l1In.f a3 0 60000).bind fun t144 => (spec_HrdHear.j0 k a1 a2 a3 (!t144) l0_0 l0_1)) = some (r1, r2, r3) := by rw [if_pos rfl] at H; exact H
     clear H
     have H := H1
     clear H1
     replace H := Option.bind_eq_some_iff.mp H
     obtain ⟨t144, A140, H⟩ := H
     replace H : (spec_HrdHear.j0 k a1 a2 a3 (!t144) l0_0 l0_1) = some (r1, r2, r3) := H
     have A14 := qM A140
     clear A140
     have H' := qM H
     clear H
     have hnb15 := NB139_140.out
     have hnc15 := NB140_139.out
     have hcz16_0 : w7.cell? ⟨gb139, 0, none⟩ = some (.slice A0_0 l0_0.length c0_0) := (zC BK139.out 0).trans rfl
     have hcz16_1 : w7.cell? ⟨gb139, 1, none⟩ = some (.slice A0_1 l0_1.length c0_1) := (zC BK139.out 1).trans rfl
     have hfz16_0 := zF BK139.out 0
     have hfz16_1 := zF BK139.out 1
     go_wp2_with (first | ((with_reducible refine gate_callee (f := 57) rfl ?_); refine goesL_ (some 13) rfl rfl Try.func57 (by kernel_rfl) rfl #[.agg #[.slice A0_0 l0_0.length c0_0, .slice A0_1 l0_1.length c0_1]] rfl (by (try simp only [List.map_toArray, List.map_cons, List.map_nil]); first | done | rfl | (simp only [List.length_drop, List.length_take]; rfl)) ?_; (with_reducible refine (spec_HrdOk.calls k _ _ l0_0 _ _ l0_1 true _ ?side1 ?side2 ?side3 ?side4 A8.out).mono ?_); (case side1 => repeat (first | exact (Kd.C_below HR0_0.out HB.out) | (with_reducible refine Kd.C_alloc ?_ _) | (with_reducible refine Kd.C_drewN ?_ _) | (with_reducible refine Kd.C_drew ?_))); (case side2 => exact HC0_0.out); (case side3 => repeat (first | exact (Kd.C_below HR0_1.out HB.out) | (with_reducible refine Kd.C_alloc ?_ _) | (with_reducible refine Kd.C_drewN ?_ _) | (with_reducible refine Kd.C_drew ?_))); (case side4 => exact HC0_1.out); rintro e w17 ⟨rfl, hb⟩; refine ⟨_, rfl, ?_⟩; have n0_ := qM (blk_below (g := gb139) (o := .cells #[.slice A0_0 l0_0.length c0_0, .slice A0_1 l0_1.length c0_1] 37 (0, 0)) (by (with_reducible repeat (first | refine zN ?_ _ | refine zD ?_ | refine zA ?_ _)); exact BK139.out) hb); have n1_ := qM (blk_below (g := gb140) (o := .cells #[.slice none 0 0, .slice none 0 0] 37 (0, 0)) (by (with_reducible repeat (first | refine zN ?_ _ | refine zD ?_ | refine zA ?_ _)); exact BK140.out) hb); have n2_ := qM (below_step (by repeat (first | (with_reducible first | exact HB.out | apply yA | apply yN | apply yD | refine yS ?_ GE139.out | refine yS ?_ GE140.out) | exact HB.out)) hb); clear BK139; clear BK140; clear HB; have BK139 := n0_; have BK140 := n1_; have HB := n2_; clear n0_ n1_ n2_; (try clear hb); (try clear hb2); (try clear hk); (try clear hi); have hcz18_0 : w17.cell? ⟨gb139, 0, none⟩ = some (.slice A0_0 l0_0.length c0_0) := (zC BK139.out 0).trans rfl; have hcz18_1 : w17.cell? ⟨gb139, 1, none⟩ = some (.slice A0_1 l0_1.length c0_1) := (zC BK139.out 1).trans rfl; have hfz18_0 := zF BK139.out 0; have hfz18_1 := zF BK139.out 1) | (go_at_call 42; (with_reducible refine (spec_l1In.calls a1 0 (wrap64 ((l0_0.length : Int) - 1)) true _ A10.out).mono ?_); rintro e w' ⟨rfl, ⟨nd, rfl⟩⟩) | (go_at_call 42; (with_reducible refine (spec_l1In.calls a2 1 60000 true _ A12.out).mono ?_); rintro e w' ⟨rfl, ⟨nd, rfl⟩⟩) | (go_at_call 42; (with_reducible refine (spec_l1In.calls a3 0 60000 t144 _ A14.out).mono ?_); rintro e w' ⟨rfl, ⟨nd, rfl⟩⟩))
     go_meet
     case rel => exact ⟨_, (!t144), (by first | rfl | (simp; done) | (simp [*]; done)), H', ⟨by first | omega | exact Nat.le_refl _⟩, ⟨by (with_reducible repeat (first | refine zN ?_ _ | refine zD ?_ | refine zA ?_ _)); exact BK139.out⟩, ⟨by (with_reducible repeat (first | refine zN ?_ _ | refine zD ?_ | refine zA ?_ _)); exact BK140.out⟩, ⟨by repeat (first | (with_reducible first | exact HB.out | apply yA | apply yN | apply yD | refine yS ?_ GE139.out | refine yS ?_ GE140.out) | exact HB.out)⟩⟩
    ·replace c13 := Bool.eq_false_iff.mpr c13
     subst c13
     have H1 : (spec_HrdHear.j0 k a1 a2 a3 true l0_0 l0_1) = some (r1, r2, r3) := by rw [if_neg (show ¬ (false = true) by decide)] at H; exact H
     clear H
     have H := H1
     clear H1
     have H' := qM H
     clear H
     have hnb19 := NB139_140.out
     have hnc19 := NB140_139.out
     have hcz20_0 : w7.cell? ⟨gb139, 0, none⟩ = some (.slice A0_0 l0_0.length c0_0) := (zC BK139.out 0).trans rfl
     have hcz20_1 : w7.cell? ⟨gb139, 1, none⟩ = some (.slice A0_1 l0_1.length c0_1) := (zC BK139.out 1).trans rfl
     have hfz20_0 := zF BK139.out 0
     have hfz20_1 := zF BK139.out 1
     go_wp2_with (first | ((with_reducible refine gate_callee (f := 57) rfl ?_); refine goesL_ (some 13) rfl rfl Try.func57 (by kernel_rfl) rfl #[.agg #[.slice A0_0 l0_0.length c0_0, .slice A0_1 l0_1.length c0_1]] rfl (by (try simp only [List.map_toArray, List.map_cons, List.map_nil]); first | done | rfl | (simp only [List.length_drop, List.length_take]; rfl)) ?_; (with_reducible refine (spec_HrdOk.calls k _ _ l0_0 _ _ l0_1 true _ ?side1 ?side2 ?side3 ?side4 A8.out).mono ?_); (case side1 => repeat (first | exact (Kd.C_below HR0_0.out HB.out) | (with_reducible refine Kd.C_alloc ?_ _) | (with_reducible refine Kd.C_drewN ?_ _) | (with_reducible refine Kd.C_drew ?_))); (case side2 => exact HC0_0.out); (case side3 => repeat (first | exact (Kd.C_below HR0_1.out HB.out) | (with_reducible refine Kd.C_alloc ?_ _) | (with_reducible refine Kd.C_drewN ?_ _) | (with_reducible refine Kd.C_drew ?_))); (case side4 => exact HC0_1.out); rintro e w21 ⟨rfl, hb⟩; refine ⟨_, rfl, ?_⟩; have n0_ := qM (blk_below (g := gb139) (o := .cells #[.slice A0_0 l0_0.length c0_0, .slice A0_1 l0_1.length c0_1] 37 (0, 0)) (by (with_reducible repeat (first | refine zN ?_ _ | refine zD ?_ | refine zA ?_ _)); exact BK139.out) hb); have n1_ := qM (blk_below (g := gb140) (o := .cells #[.slice none 0 0, .slice none 0 0] 37 (0, 0)) (by (with_reducible repeat (first | refine zN ?_ _ | refine zD ?_ | refine zA ?_ _)); exact BK140.out) hb); have n2_ := qM (below_step (by repeat (first | (with_reducible first | exact HB.out | apply yA | apply yN | apply yD | refine yS ?_ GE139.out | refine yS ?_ GE140.out) | exact HB.out)) hb); clear BK139; clear BK140; clear HB; have BK139 := n0_; have BK140 := n1_; have HB := n2_; clear n0_ n1_ n2_; (try clear hb); (try clear hb2); (try clear hk); (try clear hi); have hcz22_0 : w21.cell? ⟨gb139, 0, none⟩ = some (.slice A0_0 l0_0.length c0_0) := (zC BK139.out 0).trans rfl; have hcz22_1 : w21.cell? ⟨gb139, 1, none⟩ = some (.slice A0_1 l0_1.length c0_1) := (zC BK139.out 1).trans rfl; have hfz22_0 := zF BK139.out 0; have hfz22_1 := zF BK139.out 1) | (go_at_call 42; (with_reducible refine (spec_l1In.calls a1 0 (wrap64 ((l0_0.length : Int) - 1)) true _ A10.out).mono ?_); rintro e w' ⟨rfl, ⟨nd, rfl⟩⟩) | (go_at_call 42; (with_reducible refine (spec_l1In.calls a2 1 60000 false _ A12.out).mono ?_); rintro e w' ⟨rfl, ⟨nd, rfl⟩⟩))
     go_meet
     case rel => exact ⟨_, (true), (by first | rfl | (simp; done) | (simp [*]; done)), H', ⟨by first | omega | exact Nat.le_refl _⟩, ⟨by (with_reducible repeat (first | refine zN ?_ _ | refine zD ?_ | refine zA ?_ _)); exact BK139.out⟩, ⟨by (with_reducible repeat (first | refine zN ?_ _ | refine zD ?_ | refine zA ?_ _)); exact BK140.out⟩, ⟨by repeat (first | (with_reducible first | exact HB.out | apply yA | apply yN | apply yD | refine yS ?_ GE139.out | refine yS ?_ GE140.out) | exact HB.out)⟩⟩
   ·replace c11 := Bool.eq_false_iff.mpr c11
    subst c11
    have H1 : (spec_HrdHear.j0 k a1 a2 a3 true l0_0 l0_1) = some (r1, r2, r3) := by rw [if_neg (show ¬ (false = true) by decide)] at H; exact H
    clear H
    have H := H1
    clear H1
    have H' := qM H
    clear H
    have hnb23 := NB139_140.out
    have hnc23 := NB140_139.out
    have hcz24_0 : w7.cell? ⟨gb139, 0, none⟩ = some (.slice A0_0 l0_0.length c0_0) := (zC BK139.out 0).trans rfl
    have hcz24_1 : w7.cell? ⟨gb139, 1, none⟩ = some (.slice A0_1 l0_1.length c0_1) := (zC BK139.out 1).trans rfl
    have hfz24_0 := zF BK139.out 0
    have hfz24_1 := zF BK139.out 1
    go_wp2_with (first | ((with_reducible refine gate_callee (f := 57) rfl ?_); refine goesL_ (some 13) rfl rfl Try.func57 (by kernel_rfl) rfl #[.agg #[.slice A0_0 l0_0.length c0_0, .slice A0_1 l0_1.length c0_1]] rfl (by (try simp only [List.map_toArray, List.map_cons, List.map_nil]); first | done | rfl | (simp only [List.length_drop, List.length_take]; rfl)) ?_; (with_reducible refine (spec_HrdOk.calls k _ _ l0_0 _ _ l0_1 true _ ?side1 ?side2 ?side3 ?side4 A8.out).mono ?_); (case side1 => repeat (first | exact (Kd.C_below HR0_0.out HB.out) | (with_reducible refine Kd.C_alloc ?_ _) | (with_reducible refine Kd.C_drewN ?_ _) | (with_reducible refine Kd.C_drew ?_))); (case side2 => exact HC0_0.out); (case side3 => repeat (first | exact (Kd.C_below HR0_1.out HB.out) | (with_reducible refine Kd.C_alloc ?_ _) | (with_reducible refine Kd.C_drewN ?_ _) | (with_reducible refine Kd.C_drew ?_))); (case side4 => exact HC0_1.out); rintro e w25 ⟨rfl, hb⟩; refine ⟨_, rfl, ?_⟩; have n0_ := qM (blk_below (g := gb139) (o := .cells #[.slice A0_0 l0_0.length c0_0, .slice A0_1 l0_1.length c0_1] 37 (0, 0)) (by (with_reducible repeat (first | refine zN ?_ _ | refine zD ?_ | refine zA ?_ _)); exact BK139.out) hb); have n1_ := qM (blk_below (g := gb140) (o := .cells #[.slice none 0 0, .slice none 0 0] 37 (0, 0)) (by (with_reducible repeat (first | refine zN ?_ _ | refine zD ?_ | refine zA ?_ _)); exact BK140.out) hb); have n2_ := qM (below_step (by repeat (first | (with_reducible first | exact HB.out | apply yA | apply yN | apply yD | refine yS ?_ GE139.out | refine yS ?_ GE140.out) | exact HB.out)) hb); clear BK139; clear BK140; clear HB; have BK139 := n0_; have BK140 := n1_; have HB := n2_; clear n0_ n1_ n2_; (try clear hb); (try clear hb2); (try clear hk); (try clear hi); have hcz26_0 : w25.cell? ⟨gb139, 0, none⟩ = some (.slice A0_0 l0_0.length c0_0) := (zC BK139.out 0).trans rfl; have hcz26_1 : w25.cell? ⟨gb139, 1, none⟩ = some (.slice A0_1 l0_1.length c0_1) := (zC BK139.out 1).trans rfl; have hfz26_0 := zF BK139.out 0; have hfz26_1 := zF BK139.out 1) | (go_at_call 42; (with_reducible refine (spec_l1In.calls a1 0 (wrap64 ((l0_0.length : Int) - 1)) false _ A10.out).mono ?_); rintro e w' ⟨rfl, ⟨nd, rfl⟩⟩))
    go_meet
    case rel => exact ⟨_, (true), (by first | rfl | (simp; done) | (simp [*]; done)), H', ⟨by first | omega | exact Nat.le_refl _⟩, ⟨by (with_reducible repeat (first | refine zN ?_ _ | refine zD ?_ | refine zA ?_ _)); exact BK139.out⟩, ⟨by (with_reducible repeat (first | refine zN ?_ _ | refine zD ?_ | refine zA ?_ _)); exact BK140.out⟩, ⟨by repeat (first | (with_reducible first | exact HB.out | apply yA | apply yN | apply yD | refine yS ?_ GE139.out | refine yS ?_ GE140.out) | exact HB.out)⟩⟩
  ·replace c9 := Bool.eq_false_iff.mpr c9
   subst c9
   have H1 : (spec_HrdHear.j0 k a1 a2 a3 true l0_0 l0_1) = some (r1, r2, r3) := by rw [if_neg (show ¬ (false = true) by decide)] at H; exact H
   clear H
   have H := H1
   clear H1
   have H' := qM H
   clear H
   have hnb27 := NB139_140.out
   have hnc27 := NB140_139.out
   have hcz28_0 : w7.cell? ⟨gb139, 0, none⟩ = some (.slice A0_0 l0_0.length c0_0) := (zC BK139.out 0).trans rfl
   have hcz28_1 : w7.cell? ⟨gb139, 1, none⟩ = some (.slice A0_1 l0_1.length c0_1) := (zC BK139.out 1).trans rfl
   have hfz28_0 := zF BK139.out 0
   have hfz28_1 := zF BK139.out 1
   go_wp2_with (first | ((with_reducible refine gate_callee (f := 57) rfl ?_); refine goesL_ (some 13) rfl rfl Try.func57 (by kernel_rfl) rfl #[.agg #[.slice A0_0 l0_0.length c0_0, .slice A0_1 l0_1.length c0_1]] rfl (by (try simp only [List.map_toArray, List.map_cons, List.map_nil]); first | done | rfl | (simp only [List.length_drop, List.length_take]; rfl)) ?_; (with_reducible refine (spec_HrdOk.calls k _ _ l0_0 _ _ l0_1 false _ ?side1 ?side2 ?side3 ?side4 A8.out).mono ?_); (case side1 => repeat (first | exact (Kd.C_below HR0_0.out HB.out) | (with_reducible refine Kd.C_alloc ?_ _) | (with_reducible refine Kd.C_drewN ?_ _) | (with_reducible refine Kd.C_drew ?_))); (case side2 => exact HC0_0.out); (case side3 => repeat (first | exact (Kd.C_below HR0_1.out HB.out) | (with_reducible refine Kd.C_alloc ?_ _) | (with_reducible refine Kd.C_drewN ?_ _) | (with_reducible refine Kd.C_drew ?_))); (case side4 => exact HC0_1.out); rintro e w29 ⟨rfl, hb⟩; refine ⟨_, rfl, ?_⟩; have n0_ := qM (blk_below (g := gb139) (o := .cells #[.slice A0_0 l0_0.length c0_0, .slice A0_1 l0_1.length c0_1] 37 (0, 0)) (by (with_reducible repeat (first | refine zN ?_ _ | refine zD ?_ | refine zA ?_ _)); exact BK139.out) hb); have n1_ := qM (blk_below (g := gb140) (o := .cells #[.slice none 0 0, .slice none 0 0] 37 (0, 0)) (by (with_reducible repeat (first | refine zN ?_ _ | refine zD ?_ | refine zA ?_ _)); exact BK140.out) hb); have n2_ := qM (below_step (by repeat (first | (with_reducible first | exact HB.out | apply yA | apply yN | apply yD | refine yS ?_ GE139.out | refine yS ?_ GE140.out) | exact HB.out)) hb); clear BK139; clear BK140; clear HB; have BK139 := n0_; have BK140 := n1_; have HB := n2_; clear n0_ n1_ n2_; (try clear hb); (try clear hb2); (try clear hk); (try clear hi)))
   go_meet
   case rel => exact ⟨_, (true), (by first | rfl | (simp; done) | (simp [*]; done)), H', ⟨by first | omega | exact Nat.le_refl _⟩, ⟨by (with_reducible repeat (first | refine zN ?_ _ | refine zD ?_ | refine zA ?_ _)); exact BK139.out⟩, ⟨by (with_reducible repeat (first | refine zN ?_ _ | refine zD ?_ | refine zA ?_ _)); exact BK140.out⟩, ⟨by repeat (first | (with_reducible first | exact HB.out | apply yA | apply yN | apply yD | refine yS ?_ GE139.out | refine yS ?_ GE140.out) | exact HB.out)⟩⟩
 case rest =>
  clear HC5
  try clear c1
  try clear c2
  try clear p2
  try clear c5
  try clear p6
  try clear c9
  try clear c11
  try clear c13
  try clear c15
  try clear c19
  try clear c23
  try clear c27
  try clear hcz16_0
  try clear hcz16_1
  try clear hcz18_0
  try clear hcz18_1
  try clear hcz20_0
  try clear hcz20_1
  try clear hcz22_0
  try clear hcz22_1
  try clear hcz24_0
  try clear hcz24_1
  try clear hcz26_0
  try clear hcz26_1
  try clear hcz28_0
  try clear hcz28_1
  try clear hfz16_0
  try clear hfz16_1
  try clear hfz18_0
  try clear hfz18_1
  try clear hfz20_0
  try clear hfz20_1
  try clear hfz22_0
  try clear hfz22_1
  try clear hfz24_0
  try clear hfz24_1
  try clear hfz26_0
  try clear hfz26_1
  try clear hfz28_0
  try clear hfz28_1
  obtain ⟨kq, x33_4, rfl, HA, HJ4, BK139, BK140, HB⟩ := hcut
  cases kq with
  | zero => exact absurd HA.out (by simp [spec_HrdHear.j0])
  | succ kj4 =>
   have H := HA.out
   clear HA
   simp only [spec_HrdHear.j0] at H
   by_cases c30 : x33_4 = true
   ·subst c30
    have H1 : (some (([] : List Int), ([] : List Int), 0)) = some (r1, r2, r3) := by rw [if_pos rfl] at H; exact H
    clear H
    have H := H1
    clear H1
    simp only [Option.some.injEq, Prod.mk.injEq] at H
    obtain ⟨rfl, rfl, rfl⟩ := H
    have hnb31 := NB140_139.out
    have hnc31 := NB139_140.out
    have hcz32_0 : wc.cell? ⟨gb140, 0, none⟩ = some (.slice none 0 0) := (zC BK140.out 0).trans rfl
    have hcz32_1 : wc.cell? ⟨gb140, 1, none⟩ = some (.slice none 0 0) := (zC BK140.out 1).trans rfl
    have hfz32_0 := zF BK140.out 0
    have hfz32_1 := zF BK140.out 1
    go_wp2
    refine bodyPost_ret (results_ct rfl _ _ gb140 37 #[.slice none 0 0, .slice none 0 0] (0, 0) _ rfl (by (with_reducible repeat (first | refine zN ?_ _ | refine zD ?_ | refine zA ?_ _)); refine blk_put (cs := #[.slice none 0 0, .slice none 0 0]) ?_ 1 _ rfl; (with_reducible repeat (first | refine zN ?_ _ | refine zD ?_ | refine zA ?_ _)); refine blk_put (cs := #[.slice none 0 0, .slice none 0 0]) ?_ 0 _ rfl; (with_reducible repeat (first | refine zN ?_ _ | refine zD ?_ | refine zA ?_ _)); exact BK140.out) Try.underlying37 rfl (by kernel_rfl)) rfl ?_
    exact ⟨_, _, by first | rfl | (simp [errW_none, errW_some] <;> rfl) | (simp [*, errW_none, errW_some] <;> rfl), by first | exact Kd.R_nil _ _ _ _ _ | exact Kd.N_nil _ _ _ _ _ | exact Kd.V_nil _ _ _ _ _ | exact Kd.Q_nil _ _ _ _ _ | exact Kd.S_nil _ _ _ _ _, by first | exact Kd.R_nil _ _ _ _ _ | exact Kd.N_nil _ _ _ _ _ | exact Kd.V_nil _ _ _ _ _ | exact Kd.Q_nil _ _ _ _ _ | exact Kd.S_nil _ _ _ _ _, by repeat (first | (with_reducible first | exact HB.out | apply yA | apply yN | apply yD | refine yS ?_ GE139.out | refine yS ?_ GE140.out) | exact HB.out)⟩
   ·replace c30 := Bool.eq_false_iff.mpr c30
    subst c30
    have H1 : ((spec_l13Copy.f l0_0 l0_1).bind fun bt145 => (if 0 ≤ a1 then (if a1 < (bt145.1.length : Int) then (if a2 > (rd bt145.1 a1) then (if 1 < 3 then (if a1 < (bt145.2.length : Int) then (some ((bt145.1.set (a1 : Int).toNat a2), (bt145.2.set (a1 : Int).toNat a3), 1)) else (none)) else (some (bt145.1, bt145.2, 1))) else (if a2 = (rd bt145.1 a1) then (if a1 < (bt145.2.length : Int) then (spec_HrdHear.j1 kj4 a1 a2 a3 3 (decide (a3 > (rd bt145.2 a1))) bt145.1 bt145.2) else (none)) else (spec_HrdHear.j1 kj4 a1 a2 a3 3 false bt145.1 bt145.2))) else (none)) else (none))) = some (r1, r2, r3) := by rw [if_neg (show ¬ (false = true) by decide)] at H; exact H
    clear H
    have H := H1
    clear H1
    replace H := Option.bind_eq_some_iff.mp H
    obtain ⟨⟨t145, t148⟩, A330, H⟩ := H
    replace H : (if 0 ≤ a1 then (if a1 < (t145.length : Int) then (if a2 > (rd t145 a1) then (if 1 < 3 then (if a1 < (t148.length : Int) then (some ((t145.set (a1 : Int).toNat a2), (t148.set (a1 : Int).toNat a3), 1)) else (none)) else (some (t145, t148, 1))) else (if a2 = (rd t145 a1) then (if a1 < (t148.length : Int) then (spec_HrdHear.j1 kj4 a1 a2 a3 3 (decide (a3 > (rd t148 a1))) t145 t148) else (none)) else (spec_HrdHear.j1 kj4 a1 a2 a3 3 false t145 t148))) else (none)) else (none)) = some (r1, r2, r3) := H
    have A33 := qM A330
    clear A330
    by_cases c34 : 0 ≤ a1
    ·rw [if_pos c34] at H
     have c34b0 : decide (0 ≤ a1) = true := decide_eq_true c34
     clear c34
     by_cases c35 : a1 < (t145.length : Int)
     ·rw [if_pos c35] at H
      have c35b0 : decide (a1 < (t145.length : Int)) = true := decide_eq_true c35
      clear c35
      by_cases c36 : a2 > (rd t145 a1)
      ·rw [if_pos c36] at H
       have c36b0 : decide ((rd t145 a1) < a2) = true := decide_eq_true c36
       clear c36
       by_cases c37 : 1 < 3
       ·rw [if_pos c37] at H
        have c37b0 : decide (1 < 3) = true := decide_eq_true c37
        clear c37
        obtain ⟨y153, hy153⟩ : ∃ y_ : List Int, y_ = (t145.set (a1 : Int).toNat a2) := ⟨_, rfl⟩
        replace H : (if a1 < (t148.length : Int) then (some (y153, (t148.set (a1 : Int).toNat a3), 1)) else (none)) = some (r1, r2, r3) := by first | (rw [hy153]; with_reducible exact H) | (have H2_ := (Option.bind_some _ _).symm.trans H; rw [hy153]; with_reducible exact H2_) | (have H2_ := (Option.bind_some _ _).symm.trans H; with_reducible exact H2_) | with_reducible exact H | (rw [hy153]; exact H) | exact H
        have Ny153 := qM hy153
        clear hy153
        by_cases c39 : a1 < (t148.length : Int)
        ·rw [if_pos c39] at H
         have c39b0 : decide (a1 < (t148.length : Int)) = true := decide_eq_true c39
         clear c39
         obtain ⟨y154, hy154⟩ : ∃ y_ : List Int, y_ = (t148.set (a1 : Int).toNat a3) := ⟨_, rfl⟩
         replace H : (some (y153, y154, 1)) = some (r1, r2, r3) := by first | (rw [hy154]; with_reducible exact H) | (have H2_ := (Option.bind_some _ _).symm.trans H; rw [hy154]; with_reducible exact H2_) | (have H2_ := (Option.bind_some _ _).symm.trans H; with_reducible exact H2_) | with_reducible exact H | (rw [hy154]; exact H) | exact H
         have Ny154 := qM hy154
         clear hy154
         simp only [Option.some.injEq, Prod.mk.injEq] at H
         obtain ⟨rfl, rfl, rfl⟩ := H
         have hnb41 := NB139_140.out
         have hnc41 := NB140_139.out
         have hcz42_0 : wc.cell? ⟨gb139, 0, none⟩ = some (.slice A0_0 l0_0.length c0_0) := (zC BK139.out 0).trans rfl
         have hcz42_1 : wc.cell? ⟨gb139, 1, none⟩ = some (.slice A0_1 l0_1.length c0_1) := (zC BK139.out 1).trans rfl
         have hfz42_0 := zF BK139.out 0
         have hfz42_1 := zF BK139.out 1
         go_wp2_with (first | ((with_reducible refine gate_callee (f := 58) rfl ?_); refine goesL_ (some 36) rfl rfl Try.func58 (by kernel_rfl) rfl #[.agg #[.slice A0_0 l0_0.length c0_0, .slice A0_1 l0_1.length c0_1]] rfl (by (try simp only [List.map_toArray, List.map_cons, List.map_nil]); first | done | rfl | (simp only [List.length_drop, List.length_take]; rfl)) ?_; (with_reducible refine (spec_l13Copy.calls _ _ l0_0 _ _ l0_1 t145 t148 _ ?side1 ?side2 ?side3 ?side4 A33.out).mono ?_); (case side1 => repeat (first | exact (Kd.C_below HR0_0.out HB.out) | (with_reducible refine Kd.C_alloc ?_ _) | (with_reducible refine Kd.C_drewN ?_ _) | (with_reducible refine Kd.C_drew ?_))); (case side2 => exact HC0_0.out); (case side3 => repeat (first | exact (Kd.C_below HR0_1.out HB.out) | (with_reducible refine Kd.C_alloc ?_ _) | (with_reducible refine Kd.C_drewN ?_ _) | (with_reducible refine Kd.C_drew ?_))); (case side4 => exact HC0_1.out); rintro e w43 ⟨v146, v149, rfl, ho0, ho1, hb⟩; refine ⟨_, rfl, ?_⟩; have n0_ := qM (Kd.R_lower ho0 (below_size (by repeat (first | (with_reducible first | exact HB.out | apply yA | apply yN | apply yD | refine yS ?_ GE139.out | refine yS ?_ GE140.out) | exact HB.out)))); have n1_ := qM (Kd.R_lower ho1 (below_size (by repeat (first | (with_reducible first | exact HB.out | apply yA | apply yN | apply yD | refine yS ?_ GE139.out | refine yS ?_ GE140.out) | exact HB.out)))); have n2_ := qM (blk_below (g := gb139) (o := .cells #[.slice A0_0 l0_0.length c0_0, .slice A0_1 l0_1.length c0_1] 37 (0, 0)) (by (with_reducible repeat (first | refine zN ?_ _ | refine zD ?_ | refine zA ?_ _)); exact BK139.out) hb); have n3_ := qM (blk_below (g := gb140) (o := .cells #[.slice none 0 0, .slice none 0 0] 37 (0, 0)) (by (with_reducible repeat (first | refine zN ?_ _ | refine zD ?_ | refine zA ?_ _)); exact BK140.out) hb); have n4_ := qM (below_step (by repeat (first | (with_reducible first | exact HB.out | apply yA | apply yN | apply yD | refine yS ?_ GE139.out | refine yS ?_ GE140.out) | exact HB.out)) hb); clear BK139; clear BK140; clear HB; have HO147 := n0_; have HO150 := n1_; have BK139 := n2_; have BK140 := n3_; have HB := n4_; clear n0_ n1_ n2_ n3_ n4_; (try clear hb); (try clear hb2); (try clear hk); (try clear hi); (try clear ho0); (try clear ho1)) | ((with_reducible refine gate_dst (N := 10) rfl ?_); (try (refine gate_guard (by rfl) ?_; dsimp only)); refine box_event ?hg (N := 10) ?hd (cs := #[.slice none 0 0, .slice none 0 0]) (t := 37) ?hr ?_; (case hd => rfl); (case hg => rfl); (case hr => first | (go_simp; done) | (go_simp; rfl)); intro gb151 hg w44 hbox hb; have n0_ := qM (Kd.R_below (by (with_reducible repeat (first | apply qA | apply qN | apply qD)); exact HO147.out) hb); have n1_ := qM (Kd.R_below (by (with_reducible repeat (first | apply qA | apply qN | apply qD)); exact HO150.out) hb); have n2_ := qM (blk_below (g := gb139) (o := .cells #[.slice A0_0 l0_0.length c0_0, .slice A0_1 l0_1.length c0_1] 37 (0, 0)) (by (with_reducible repeat (first | refine zN ?_ _ | refine zD ?_ | refine zA ?_ _)); exact BK139.out) hb); have n3_ := qM (blk_below (g := gb140) (o := .cells #[.slice none 0 0, .slice none 0 0] 37 (0, 0)) (by (with_reducible repeat (first | refine zN ?_ _ | refine zD ?_ | refine zA ?_ _)); exact BK140.out) hb); have n4_ := qM (below_step (by repeat (first | (with_reducible first | exact HB.out | apply yA | apply yN | apply yD | refine yS ?_ GE139.out | refine yS ?_ GE140.out) | exact HB.out)) hb); have n5_ := qM (hbox); have n6_ := qM ((by rw [hg]; exact (below_size (by repeat (first | (with_reducible first | exact HB.out | apply yA | apply yN | apply yD | refine yS ?_ GE139.out | refine yS ?_ GE140.out) | exact HB.out))) : w.heap.size ≤ gb151)); have n7_ := qM ((by rw [hg]; exact (below_size (by repeat (first | (with_reducible first | exact HB.out | apply yA | apply yN | apply yD | refine yS ?_ GE139.out | refine yS ?_ GE140.out) | exact HB.out))) : w.heap.size ≤ gb151)); have n8_ := qM ((by rw [hg]; exact Nat.ne_of_lt (blk_lt (g := gb139) (o := .cells #[.slice A0_0 l0_0.length c0_0, .slice A0_1 l0_1.length c0_1] 37 (0, 0)) (by (with_reducible repeat (first | refine zN ?_ _ | refine zD ?_ | refine zA ?_ _)); exact BK139.out)) : gb139 ≠ gb151)); have n9_ := qM ((by rw [hg]; exact Nat.ne_of_gt (blk_lt (g := gb139) (o := .cells #[.slice A0_0 l0_0.length c0_0, .slice A0_1 l0_1.length c0_1] 37 (0, 0)) (by (with_reducible repeat (first | refine zN ?_ _ | refine zD ?_ | refine zA ?_ _)); exact BK139.out)) : gb151 ≠ gb139)); have n10_ := qM ((by rw [hg]; exact Nat.ne_of_lt (blk_lt (g := gb140) (o := .cells #[.slice none 0 0, .slice none 0 0] 37 (0, 0)) (by (with_reducible repeat (first | refine zN ?_ _ | refine zD ?_ | refine zA ?_ _)); exact BK140.out)) : gb140 ≠ gb151)); have n11_ := qM ((by rw [hg]; exact Nat.ne_of_gt (blk_lt (g := gb140) (o := .cells #[.slice none 0 0, .slice none 0 0] 37 (0, 0)) (by (with_reducible repeat (first | refine zN ?_ _ | refine zD ?_ | refine zA ?_ _)); exact BK140.out)) : gb151 ≠ gb140)); clear HO147; clear HO150; clear BK139; clear BK140; clear HB; have HO147 := n0_; have HO150 := n1_; have BK139 := n2_; have BK140 := n3_; have HB := n4_; have BK151 := n5_; have GW151 := n6_; have GE151 := n7_; have NB139_151 := n8_; have NB151_139 := n9_; have NB140_151 := n10_; have NB151_140 := n11_; clear n0_ n1_ n2_ n3_ n4_ n5_ n6_ n7_ n8_ n9_ n10_ n11_; clear hb hbox hg; obtain ⟨Ao45, co45, eo45⟩ := Kd.R_slice HO147.out; subst eo45; have hnb46 := NB151_139.out; have hnc46 := NB139_151.out; have hnb47 := NB151_140.out; have hnc47 := NB140_151.out; have hcz48_0 : w44.cell? ⟨gb151, 0, none⟩ = some (.slice none 0 0) := (zC BK151.out 0).trans rfl; have hcz48_1 : w44.cell? ⟨gb151, 1, none⟩ = some (.slice none 0 0) := (zC BK151.out 1).trans rfl; have hfz48_0 := zF BK151.out 0; have hfz48_1 := zF BK151.out 1; obtain ⟨Ao49, co49, eo49⟩ := Kd.R_slice HO150.out; subst eo49) | ((with_reducible refine gate_store (t := 37) (p := 10) rfl ?_); refine store_event (t := 37) (p := 10) (v := ?vo_w50) (w1 := ((w44.setCell ⟨gb151, 0, none⟩ (.slice Ao45 t145.length co45)).setCell ⟨gb151, 1, none⟩ (.slice Ao49 t148.length co49))) ?hg ?ho ?hn ?hr ?_; (case ho => rfl); (case hg => rfl); (case hn => rfl); (case hr => first | (go_simp; done) | (go_simp; rfl)); intro w50 hw; have n0_ : Aside0 (Kd.R (Kd.int .i64) 3 w50 w.heap.size (fun k_ => some k_ ≠ (.slice Ao49 t148.length co49 : Value).ownBlock) (.slice Ao45 t145.length co45) t145) := ⟨(by rw [hw]; exact (by (with_reducible repeat (first | apply qA | apply qN | apply qD)); exact Kd.R_mono (qF (p := ⟨gb151, 1, none⟩) (qF (p := ⟨gb151, 0, none⟩) (Kd.R_types HO147.out BK151.out (by decide)) (fun _ hk => hk.2) (.slice Ao45 t145.length co45)) (fun _ hk => hk.2) (.slice Ao49 t148.length co49)) (fun _ hk => hk.1)))⟩; have n1_ : Aside0 (Kd.R (Kd.int .i64) 3 w50 w.heap.size (fun k_ => some k_ ≠ (.slice Ao45 t145.length co45 : Value).ownBlock) (.slice Ao49 t148.length co49) t148) := ⟨(by rw [hw]; exact (by (with_reducible repeat (first | apply qA | apply qN | apply qD)); exact Kd.R_mono (qF (p := ⟨gb151, 1, none⟩) (qF (p := ⟨gb151, 0, none⟩) (Kd.R_types HO150.out BK151.out (by decide)) (fun _ hk => hk.2) (.slice Ao45 t145.length co45)) (fun _ hk => hk.2) (.slice Ao49 t148.length co49)) (fun _ hk => hk.1)))⟩; have n2_ : Aside0 (w50.heap[gb139]? = some (.cells #[.slice A0_0 l0_0.length c0_0, .slice A0_1 l0_1.length c0_1] 37 (0, 0))) := ⟨(by rw [hw]; exact (by (with_reducible repeat (first | refine zN ?_ _ | refine zD ?_ | refine zA ?_ _)); refine blk_far ?_ NB139_151.out _; (with_reducible repeat (first | refine zN ?_ _ | refine zD ?_ | refine zA ?_ _)); refine blk_far ?_ NB139_151.out _; (with_reducible repeat (first | refine zN ?_ _ | refine zD ?_ | refine zA ?_ _)); exact BK139.out))⟩; have n3_ : Aside0 (w50.heap[gb140]? = some (.cells #[.slice none 0 0, .slice none 0 0] 37 (0, 0))) := ⟨(by rw [hw]; exact (by (with_reducible repeat (first | refine zN ?_ _ | refine zD ?_ | refine zA ?_ _)); refine blk_far ?_ NB140_151.out _; (with_reducible repeat (first | refine zN ?_ _ | refine zD ?_ | refine zA ?_ _)); refine blk_far ?_ NB140_151.out _; (with_reducible repeat (first | refine zN ?_ _ | refine zD ?_ | refine zA ?_ _)); exact BK140.out))⟩; have n4_ : Aside0 (w50.heap[gb151]? = some (.cells #[.slice Ao45 t145.length co45, .slice Ao49 t148.length co49] 37 (0, 0))) := ⟨(by rw [hw]; exact (by (with_reducible repeat (first | refine zN ?_ _ | refine zD ?_ | refine zA ?_ _)); refine blk_put (cs := #[.slice Ao45 t145.length co45, .slice none 0 0]) ?_ 1 _ rfl; (with_reducible repeat (first | refine zN ?_ _ | refine zD ?_ | refine zA ?_ _)); refine blk_put (cs := #[.slice none 0 0, .slice none 0 0]) ?_ 0 _ rfl; (with_reducible repeat (first | refine zN ?_ _ | refine zD ?_ | refine zA ?_ _)); exact BK151.out))⟩; have n5_ : Aside0 (Below w.heap.size w w50) := ⟨(by rw [hw]; exact (by repeat (first | (with_reducible first | exact HB.out | apply yA | apply yN | apply yD | refine yS ?_ GE139.out | refine yS ?_ GE140.out | refine yS ?_ GE151.out) | exact HB.out)))⟩; clear hw; clear HO147; clear HO150; clear BK139; clear BK140; clear BK151; clear HB; have HO147 := n0_; have HO150 := n1_; have BK139 := n2_; have BK140 := n3_; have BK151 := n4_; have HB := n5_; clear n0_ n1_ n2_ n3_ n4_ n5_; have hcz51_0 : w50.cell? ⟨gb151, 0, none⟩ = some (.slice Ao45 t145.length co45) := (zC BK151.out 0).trans rfl; have hcz51_1 : w50.cell? ⟨gb151, 1, none⟩ = some (.slice Ao49 t148.length co49) := (zC BK151.out 1).trans rfl; have hfz51_0 := zF BK151.out 0; have hfz51_1 := zF BK151.out 1; have p152 : 0 ≤ (a1 : Int) := of_decide_eq_true (by first | (with_reducible assumption) | assumption); have q152 : a1 < (t145.length : Int) := of_decide_eq_true (by first | (with_reducible assumption) | assumption); obtain ⟨ad152, e152, hx152_0⟩ := Kd.at_int (qR HO147.out).2.2 a1 p152 q152; cases e152; replace p152 := eq_true p152; replace q152 := eq_true q152; have p38 : 0 ≤ (a1 : Int) := of_decide_eq_true (by first | (with_reducible assumption) | assumption); have q38 : (a1 : Int) < ((t145.length : Int) : Int) := of_decide_eq_true (by first | (with_reducible assumption) | assumption); obtain ⟨go38, co38, eo38, gb38, gl38, cl38, HG38⟩ := Kd.R_form HO147.out (by omega); (first | cases eo38 | (injection eo38 with ea_ en_ ec_; (first | subst ea_ | (injection ea_ with ea_; subst ea_)); subst ec_; clear en_)); have GB38 := qM gb38; have GG38 := qM HG38; clear gb38 gl38 HG38; (first | simp only [add_plain] at hx152_0 | skip); obtain ⟨hx38_0, hf38_0⟩ := Kd.R_celln 0 HO147.out (a1 : Int) p38 q38; replace p38 := eq_true p38; replace q38 := eq_true q38; obtain ⟨hy52_, hz52_⟩ := Kd.R_celln 0 HO147.out (a1 : Int) (of_decide_eq_true (by first | (with_reducible assumption) | assumption)) (of_decide_eq_true (by first | (with_reducible assumption) | assumption)); have HP52 := Kd.R_putg HO147.out (a1 : Int) a2) | ((with_reducible refine gate_store (t := 3) (p := 66) rfl ?_); refine store_event (t := 3) (p := 66) (v := ?vo_w53) (w1 := (w50.setCell ⟨go38, (a1 : Int).toNat, none⟩ (.int .i64 a2))) ?hg ?ho ?hn ?hr ?_; (case ho => rfl); (case hg => rfl); (case hn => rfl); (case hr => first | (go_simp; done) | (go_simp; rfl)); intro w53 hw; have hg : w50.grownBy w53 (some go38) := (by rw [hw]; exact HP52.2); have hp_ : Kd.R (Kd.int .i64) 3 w53 w.heap.size (fun k_ => some k_ ≠ (.slice Ao49 t148.length co49 : Value).ownBlock) (.slice (some ⟨go38, 0, none⟩) t145.length co45) y153 := (by rw [hw, Ny153.out]; exact HP52.1); clear HP52; have n0_ := qM (blk_grown (g := gb139) (o := .cells #[.slice A0_0 l0_0.length c0_0, .slice A0_1 l0_1.length c0_1] 37 (0, 0)) (by (with_reducible repeat (first | refine zN ?_ _ | refine zD ?_ | refine zA ?_ _)); exact BK139.out) hg (Kd.R_ne HO147.out BK139.out (by decide))); have n1_ := qM (blk_grown (g := gb140) (o := .cells #[.slice none 0 0, .slice none 0 0] 37 (0, 0)) (by (with_reducible repeat (first | refine zN ?_ _ | refine zD ?_ | refine zA ?_ _)); exact BK140.out) hg (Kd.R_ne HO147.out BK140.out (by decide))); have n2_ := qM (hp_); have n3_ := qM (Kd.R_after (v := (.slice (some ⟨go38, 0, none⟩) t145.length co45)) (v1 := (.slice (some ⟨go38, 0, none⟩) t145.length co45)) (ok := (fun _ => True)) (by (with_reducible repeat (first | apply qA | apply qN | apply qD)); exact Kd.R_mono HO150.out (fun _ hk => ⟨trivial, hk⟩)) hg (.inl rfl)); have n4_ := qM (blk_grown (g := gb151) (o := .cells #[.slice (some ⟨go38, 0, none⟩) t145.length co45, .slice Ao49 t148.length co49] 37 (0, 0)) (by (with_reducible repeat (first | refine zN ?_ _ | refine zD ?_ | refine zA ?_ _)); exact BK151.out) hg (Kd.R_ne HO147.out BK151.out (by decide))); have n5_ := qM ((by rw [hw]; exact yS (HB.out) GB38.out : Below w.heap.size w w53)); clear BK139; clear BK140; clear HO147; clear HO150; clear BK151; clear HB; have BK139 := n0_; have BK140 := n1_; have HO147 := n2_; have HO150 := n3_; have BK151 := n4_; have HB := n5_; clear n0_ n1_ n2_ n3_ n4_ n5_; clear hg hw hp_; have hcz54_0 : w53.cell? ⟨gb151, 0, none⟩ = some (.slice (some ⟨go38, 0, none⟩) t145.length co45) := (zC BK151.out 0).trans rfl; have hcz54_1 : w53.cell? ⟨gb151, 1, none⟩ = some (.slice Ao49 t148.length co49) := (zC BK151.out 1).trans rfl; have hfz54_0 := zF BK151.out 0; have hfz54_1 := zF BK151.out 1; have p40 : 0 ≤ (a1 : Int) := of_decide_eq_true (by first | (with_reducible assumption) | assumption); have q40 : (a1 : Int) < ((t148.length : Int) : Int) := of_decide_eq_true (by first | (with_reducible assumption) | assumption); obtain ⟨go40, co40, eo40, gb40, gl40, cl40, HG40⟩ := Kd.R_form HO150.out (by omega); (first | cases eo40 | (injection eo40 with ea_ en_ ec_; (first | subst ea_ | (injection ea_ with ea_; subst ea_)); subst ec_; clear en_)); have GB40 := qM gb40; have GG40 := qM HG40; clear gb40 gl40 HG40; obtain ⟨hx40_0, hf40_0⟩ := Kd.R_celln 0 HO150.out (a1 : Int) p40 q40; replace p40 := eq_true p40; replace q40 := eq_true q40; have n_ := qM (Kd.R_mono (ok' := (fun k_ => some k_ ≠ (.slice (some ⟨go38, 0, none⟩) t145.length co45 : Value).ownBlock)) HO150.out (fun k_ hk => hk.2)); clear HO150; have HO150 := n_; clear n_; obtain ⟨hy55_, hz55_⟩ := Kd.R_celln 0 HO150.out (a1 : Int) (of_decide_eq_true (by first | (with_reducible assumption) | assumption)) (of_decide_eq_true (by first | (with_reducible assumption) | assumption)); have HP55 := Kd.R_putg HO150.out (a1 : Int) a3) | ((with_reducible refine gate_store (t := 3) (p := 71) rfl ?_); refine store_event (t := 3) (p := 71) (v := ?vo_w56) (w1 := (w53.setCell ⟨go40, (a1 : Int).toNat, none⟩ (.int .i64 a3))) ?hg ?ho ?hn ?hr ?_; (case ho => rfl); (case hg => rfl); (case hn => rfl); (case hr => first | (go_simp; done) | (go_simp; rfl)); intro w56 hw; have hg : w53.grownBy w56 (some go40) := (by rw [hw]; exact HP55.2); have hp_ : Kd.R (Kd.int .i64) 3 w56 w.heap.size (fun k_ => some k_ ≠ (.slice (some ⟨go38, 0, none⟩) t145.length co45 : Value).ownBlock) (.slice (some ⟨go40, 0, none⟩) t148.length co49) y154 := (by rw [hw, Ny154.out]; exact HP55.1); clear HP55; have n0_ := qM (blk_grown (g := gb139) (o := .cells #[.slice A0_0 l0_0.length c0_0, .slice A0_1 l0_1.length c0_1] 37 (0, 0)) (by (with_reducible repeat (first | refine zN ?_ _ | refine zD ?_ | refine zA ?_ _)); exact BK139.out) hg (Kd.R_ne HO150.out BK139.out (by decide))); have n1_ := qM (blk_grown (g := gb140) (o := .cells #[.slice none 0 0, .slice none 0 0] 37 (0, 0)) (by (with_reducible repeat (first | refine zN ?_ _ | refine zD ?_ | refine zA ?_ _)); exact BK140.out) hg (Kd.R_ne HO150.out BK140.out (by decide))); have n2_ := qM (Kd.R_after (v := (.slice (some ⟨go40, 0, none⟩) t148.length co49)) (v1 := (.slice (some ⟨go40, 0, none⟩) t148.length co49)) (ok := (fun _ => True)) (by (with_reducible repeat (first | apply qA | apply qN | apply qD)); exact Kd.R_mono HO147.out (fun _ hk => ⟨trivial, hk⟩)) hg (.inl rfl)); have n3_ := qM (hp_); have n4_ := qM (blk_grown (g := gb151) (o := .cells #[.slice (some ⟨go38, 0, none⟩) t145.length co45, .slice (some ⟨go40, 0, none⟩) t148.length co49] 37 (0, 0)) (by (with_reducible repeat (first | refine zN ?_ _ | refine zD ?_ | refine zA ?_ _)); exact BK151.out) hg (Kd.R_ne HO150.out BK151.out (by decide))); have n5_ := qM ((by rw [hw]; exact yS (HB.out) GB40.out : Below w.heap.size w w56)); clear BK139; clear BK140; clear HO147; clear HO150; clear BK151; clear HB; have BK139 := n0_; have BK140 := n1_; have HO147 := n2_; have HO150 := n3_; have BK151 := n4_; have HB := n5_; clear n0_ n1_ n2_ n3_ n4_ n5_; clear hg hw hp_; have hcz57_0 : w56.cell? ⟨gb151, 0, none⟩ = some (.slice (some ⟨go38, 0, none⟩) t145.length co45) := (zC BK151.out 0).trans rfl; have hcz57_1 : w56.cell? ⟨gb151, 1, none⟩ = some (.slice (some ⟨go40, 0, none⟩) t148.length co49) := (zC BK151.out 1).trans rfl; have hfz57_0 := zF BK151.out 0; have hfz57_1 := zF BK151.out 1; have hcz58_0 : w56.cell? ⟨gb140, 0, none⟩ = some (.slice none 0 0) := (zC BK140.out 0).trans rfl; have hcz58_1 : w56.cell? ⟨gb140, 1, none⟩ = some (.slice none 0 0) := (zC BK140.out 1).trans rfl; have hfz58_0 := zF BK140.out 0; have hfz58_1 := zF BK140.out 1))
         refine bodyPost_ret (results_ct rfl _ _ gb140 37 #[.slice (some ⟨go38, 0, none⟩) t145.length co45, .slice (some ⟨go40, 0, none⟩) t148.length co49] (0, 0) _ rfl (by (with_reducible repeat (first | refine zN ?_ _ | refine zD ?_ | refine zA ?_ _)); refine blk_put (cs := #[.slice (some ⟨go38, 0, none⟩) t145.length co45, .slice none 0 0]) ?_ 1 _ rfl; (with_reducible repeat (first | refine zN ?_ _ | refine zD ?_ | refine zA ?_ _)); refine blk_put (cs := #[.slice none 0 0, .slice none 0 0]) ?_ 0 _ rfl; (with_reducible repeat (first | refine zN ?_ _ | refine zD ?_ | refine zA ?_ _)); exact BK140.out) Try.underlying37 rfl (by kernel_rfl)) rfl ?_
         exact ⟨_, _, by first | rfl | (simp [errW_none, errW_some] <;> rfl) | (simp [*, errW_none, errW_some] <;> rfl), by (with_reducible repeat (first | apply qA | apply qN | apply qD)); exact Kd.R_mono (qF (p := ⟨gb140, 1, none⟩) (qF (p := ⟨gb140, 0, none⟩) (Kd.R_types HO147.out BK140.out (by decide)) (fun _ hk => hk.2) (.slice (some ⟨go38, 0, none⟩) t145.length co45)) (fun _ hk => hk.2) (.slice (some ⟨go40, 0, none⟩) t148.length co49)) (fun _ hk => hk.1.2), by (with_reducible repeat (first | apply qA | apply qN | apply qD)); exact Kd.R_mono (qF (p := ⟨gb140, 1, none⟩) (qF (p := ⟨gb140, 0, none⟩) (Kd.R_types HO150.out BK140.out (by decide)) (fun _ hk => hk.2) (.slice (some ⟨go38, 0, none⟩) t145.length co45)) (fun _ hk => hk.2) (.slice (some ⟨go40, 0, none⟩) t148.length co49)) (fun _ hk => hk.1), by repeat (first | (with_reducible first | exact HB.out | apply yA | apply yN | apply yD | refine yS ?_ GE139.out | refine yS ?_ GE140.out | refine yS ?_ GE151.out) | exact HB.out)⟩
        ·rw [if_neg c39] at H
         exact absurd H (by simp)
       ·rw [if_neg c37] at H
        have c37b0 : decide (1 < 3) = false := decide_eq_false c37
        clear c37
        simp only [Option.some.injEq, Prod.mk.injEq] at H
        obtain ⟨rfl, rfl, rfl⟩ := H
        have hnb59 := NB139_140.out
        have hnc59 := NB140_139.out
        have hcz60_0 : wc.cell? ⟨gb139, 0, none⟩ = some (.slice A0_0 l0_0.length c0_0) := (zC BK139.out 0).trans rfl
        have hcz60_1 : wc.cell? ⟨gb139, 1, none⟩ = some (.slice A0_1 l0_1.length c0_1) := (zC BK139.out 1).trans rfl
        have hfz60_0 := zF BK139.out 0
        have hfz60_1 := zF BK139.out 1
        go_wp2_with (first | ((with_reducible refine gate_callee (f := 58) rfl ?_); refine goesL_ (some 36) rfl rfl Try.func58 (by kernel_rfl) rfl #[.agg #[.slice A0_0 l0_0.length c0_0, .slice A0_1 l0_1.length c0_1]] rfl (by (try simp only [List.map_toArray, List.map_cons, List.map_nil]); first | done | rfl | (simp only [List.length_drop, List.length_take]; rfl)) ?_; (with_reducible refine (spec_l13Copy.calls _ _ l0_0 _ _ l0_1 t145 t148 _ ?side1 ?side2 ?side3 ?side4 A33.out).mono ?_); (case side1 => repeat (first | exact (Kd.C_below HR0_0.out HB.out) | (with_reducible refine Kd.C_alloc ?_ _) | (with_reducible refine Kd.C_drewN ?_ _) | (with_reducible refine Kd.C_drew ?_))); (case side2 => exact HC0_0.out); (case side3 => repeat (first | exact (Kd.C_below HR0_1.out HB.out) | (with_reducible refine Kd.C_alloc ?_ _) | (with_reducible refine Kd.C_drewN ?_ _) | (with_reducible refine Kd.C_drew ?_))); (case side4 => exact HC0_1.out); rintro e w61 ⟨v146, v149, rfl, ho0, ho1, hb⟩; refine ⟨_, rfl, ?_⟩; have n0_ := qM (Kd.R_lower ho0 (below_size (by repeat (first | (with_reducible first | exact HB.out | apply yA | apply yN | apply yD | refine yS ?_ GE139.out | refine yS ?_ GE140.out) | exact HB.out)))); have n1_ := qM (Kd.R_lower ho1 (below_size (by repeat (first | (with_reducible first | exact HB.out | apply yA | apply yN | apply yD | refine yS ?_ GE139.out | refine yS ?_ GE140.out) | exact HB.out)))); have n2_ := qM (blk_below (g := gb139) (o := .cells #[.slice A0_0 l0_0.length c0_0, .slice A0_1 l0_1.length c0_1] 37 (0, 0)) (by (with_reducible repeat (first | refine zN ?_ _ | refine zD ?_ | refine zA ?_ _)); exact BK139.out) hb); have n3_ := qM (blk_below (g := gb140) (o := .cells #[.slice none 0 0, .slice none 0 0] 37 (0, 0)) (by (with_reducible repeat (first | refine zN ?_ _ | refine zD ?_ | refine zA ?_ _)); exact BK140.out) hb); have n4_ := qM (below_step (by repeat (first | (with_reducible first | exact HB.out | apply yA | apply yN | apply yD | refine yS ?_ GE139.out | refine yS ?_ GE140.out) | exact HB.out)) hb); clear BK139; clear BK140; clear HB; have HO147 := n0_; have HO150 := n1_; have BK139 := n2_; have BK140 := n3_; have HB := n4_; clear n0_ n1_ n2_ n3_ n4_; (try clear hb); (try clear hb2); (try clear hk); (try clear hi); (try clear ho0); (try clear ho1)) | ((with_reducible refine gate_dst (N := 10) rfl ?_); (try (refine gate_guard (by rfl) ?_; dsimp only)); refine box_event ?hg (N := 10) ?hd (cs := #[.slice none 0 0, .slice none 0 0]) (t := 37) ?hr ?_; (case hd => rfl); (case hg => rfl); (case hr => first | (go_simp; done) | (go_simp; rfl)); intro gb151 hg w62 hbox hb; have n0_ := qM (Kd.R_below (by (with_reducible repeat (first | apply qA | apply qN | apply qD)); exact HO147.out) hb); have n1_ := qM (Kd.R_below (by (with_reducible repeat (first | apply qA | apply qN | apply qD)); exact HO150.out) hb); have n2_ := qM (blk_below (g := gb139) (o := .cells #[.slice A0_0 l0_0.length c0_0, .slice A0_1 l0_1.length c0_1] 37 (0, 0)) (by (with_reducible repeat (first | refine zN ?_ _ | refine zD ?_ | refine zA ?_ _)); exact BK139.out) hb); have n3_ := qM (blk_below (g := gb140) (o := .cells #[.slice none 0 0, .slice none 0 0] 37 (0, 0)) (by (with_reducible repeat (first | refine zN ?_ _ | refine zD ?_ | refine zA ?_ _)); exact BK140.out) hb); have n4_ := qM (below_step (by repeat (first | (with_reducible first | exact HB.out | apply yA | apply yN | apply yD | refine yS ?_ GE139.out | refine yS ?_ GE140.out) | exact HB.out)) hb); have n5_ := qM (hbox); have n6_ := qM ((by rw [hg]; exact (below_size (by repeat (first | (with_reducible first | exact HB.out | apply yA | apply yN | apply yD | refine yS ?_ GE139.out | refine yS ?_ GE140.out) | exact HB.out))) : w.heap.size ≤ gb151)); have n7_ := qM ((by rw [hg]; exact (below_size (by repeat (first | (with_reducible first | exact HB.out | apply yA | apply yN | apply yD | refine yS ?_ GE139.out | refine yS ?_ GE140.out) | exact HB.out))) : w.heap.size ≤ gb151)); have n8_ := qM ((by rw [hg]; exact Nat.ne_of_lt (blk_lt (g := gb139) (o := .cells #[.slice A0_0 l0_0.length c0_0, .slice A0_1 l0_1.length c0_1] 37 (0, 0)) (by (with_reducible repeat (first | refine zN ?_ _ | refine zD ?_ | refine zA ?_ _)); exact BK139.out)) : gb139 ≠ gb151)); have n9_ := qM ((by rw [hg]; exact Nat.ne_of_gt (blk_lt (g := gb139) (o := .cells #[.slice A0_0 l0_0.length c0_0, .slice A0_1 l0_1.length c0_1] 37 (0, 0)) (by (with_reducible repeat (first | refine zN ?_ _ | refine zD ?_ | refine zA ?_ _)); exact BK139.out)) : gb151 ≠ gb139)); have n10_ := qM ((by rw [hg]; exact Nat.ne_of_lt (blk_lt (g := gb140) (o := .cells #[.slice none 0 0, .slice none 0 0] 37 (0, 0)) (by (with_reducible repeat (first | refine zN ?_ _ | refine zD ?_ | refine zA ?_ _)); exact BK140.out)) : gb140 ≠ gb151)); have n11_ := qM ((by rw [hg]; exact Nat.ne_of_gt (blk_lt (g := gb140) (o := .cells #[.slice none 0 0, .slice none 0 0] 37 (0, 0)) (by (with_reducible repeat (first | refine zN ?_ _ | refine zD ?_ | refine zA ?_ _)); exact BK140.out)) : gb151 ≠ gb140)); clear HO147; clear HO150; clear BK139; clear BK140; clear HB; have HO147 := n0_; have HO150 := n1_; have BK139 := n2_; have BK140 := n3_; have HB := n4_; have BK151 := n5_; have GW151 := n6_; have GE151 := n7_; have NB139_151 := n8_; have NB151_139 := n9_; have NB140_151 := n10_; have NB151_140 := n11_; clear n0_ n1_ n2_ n3_ n4_ n5_ n6_ n7_ n8_ n9_ n10_ n11_; clear hb hbox hg; obtain ⟨Ao63, co63, eo63⟩ := Kd.R_slice HO147.out; subst eo63; have hnb64 := NB151_139.out; have hnc64 := NB139_151.out; have hnb65 := NB151_140.out; have hnc65 := NB140_151.out; have hcz66_0 : w62.cell? ⟨gb151, 0, none⟩ = some (.slice none 0 0) := (zC BK151.out 0).trans rfl; have hcz66_1 : w62.cell? ⟨gb151, 1, none⟩ = some (.slice none 0 0) := (zC BK151.out 1).trans rfl; have hfz66_0 := zF BK151.out 0; have hfz66_1 := zF BK151.out 1; obtain ⟨Ao67, co67, eo67⟩ := Kd.R_slice HO150.out; subst eo67; have p152 : 0 ≤ (a1 : Int) := of_decide_eq_true (by first | (with_reducible assumption) | assumption); have q152 : a1 < (t145.length : Int) := of_decide_eq_true (by first | (with_reducible assumption) | assumption); obtain ⟨ad152, e152, hx152_0⟩ := Kd.at_int (qR HO147.out).2.2 a1 p152 q152; cases e152; have hn152_0 : ad152.block ≠ gb151 := Kd.own_blk (Kd.R_ne HO147.out BK151.out (by decide)); have hn152_1 : ad152.block ≠ gb151 := Kd.own_blk (Kd.R_ne HO147.out BK151.out (by decide)); replace hx152_0 := (cell_far (p := ⟨gb151, 0, none⟩) (by first | (rw [add_block]; exact hn152_0) | (show (Addr.add _ _).block ≠ _; rw [add_block]; exact hn152_0) | exact hn152_0) (.slice (some ad152) t145.length co63)).trans hx152_0; replace hx152_0 := (cell_far (p := ⟨gb151, 1, none⟩) (by first | (rw [add_block]; exact hn152_1) | (show (Addr.add _ _).block ≠ _; rw [add_block]; exact hn152_1) | exact hn152_1) (.slice Ao67 t148.length co67)).trans hx152_0; clear hn152_0; clear hn152_1; replace p152 := eq_true p152; replace q152 := eq_true q152; have hcz68_0 : w62.cell? ⟨gb140, 0, none⟩ = some (.slice none 0 0) := (zC BK140.out 0).trans rfl; have hcz68_1 : w62.cell? ⟨gb140, 1, none⟩ = some (.slice none 0 0) := (zC BK140.out 1).trans rfl; have hfz68_0 := zF BK140.out 0; have hfz68_1 := zF BK140.out 1))
        all_goals refine bodyPost_ret (results_ct rfl _ _ gb140 37 #[.slice (some ad152) t145.length co63, .slice Ao67 t148.length co67] (0, 0) _ rfl (by (with_reducible repeat (first | refine zN ?_ _ | refine zD ?_ | refine zA ?_ _)); refine blk_put (cs := #[.slice (some ad152) t145.length co63, .slice none 0 0]) ?_ 1 _ rfl; (with_reducible repeat (first | refine zN ?_ _ | refine zD ?_ | refine zA ?_ _)); refine blk_put (cs := #[.slice none 0 0, .slice none 0 0]) ?_ 0 _ rfl; (with_reducible repeat (first | refine zN ?_ _ | refine zD ?_ | refine zA ?_ _)); refine blk_far ?_ NB140_151.out _; (with_reducible repeat (first | refine zN ?_ _ | refine zD ?_ | refine zA ?_ _)); refine blk_far ?_ NB140_151.out _; (with_reducible repeat (first | refine zN ?_ _ | refine zD ?_ | refine zA ?_ _)); exact BK140.out) Try.underlying37 rfl (by kernel_rfl)) rfl ?_
        all_goals exact ⟨_, _, by first | rfl | (simp [errW_none, errW_some] <;> rfl) | (simp [*, errW_none, errW_some] <;> rfl), by (with_reducible repeat (first | apply qA | apply qN | apply qD)); exact Kd.R_mono (qF (p := ⟨gb140, 1, none⟩) (qF (p := ⟨gb140, 0, none⟩) (qF (p := ⟨gb151, 1, none⟩) (qF (p := ⟨gb151, 0, none⟩) (Kd.R_types (Kd.R_types HO147.out BK151.out (by decide)) BK140.out (by decide)) (fun _ hk => hk.1.2) (.slice (some ad152) t145.length co63)) (fun _ hk => hk.1.2) (.slice Ao67 t148.length co67)) (fun _ hk => hk.2) (.slice (some ad152) t145.length co63)) (fun _ hk => hk.2) (.slice Ao67 t148.length co67)) (fun _ hk => hk.1.1), by (with_reducible repeat (first | apply qA | apply qN | apply qD)); exact Kd.R_mono (qF (p := ⟨gb140, 1, none⟩) (qF (p := ⟨gb140, 0, none⟩) (qF (p := ⟨gb151, 1, none⟩) (qF (p := ⟨gb151, 0, none⟩) (Kd.R_types (Kd.R_types HO150.out BK151.out (by decide)) BK140.out (by decide)) (fun _ hk => hk.1.2) (.slice (some ad152) t145.length co63)) (fun _ hk => hk.1.2) (.slice Ao67 t148.length co67)) (fun _ hk => hk.2) (.slice (some ad152) t145.length co63)) (fun _ hk => hk.2) (.slice Ao67 t148.length co67)) (fun _ hk => hk.1.1), by repeat (first | (with_reducible first | exact HB.out | apply yA | apply yN | apply yD | refine yS ?_ GE139.out | refine yS ?_ GE140.out | refine yS ?_ GE151.out) | exact HB.out)⟩
      ·rw [if_neg c36] at H
       have c36b0 : decide ((rd t145 a1) < a2) = false := decide_eq_false c36
       clear c36
       have HC69 := qM H
       clear H
       have hnb70 := NB139_140.out
       have hnc70 := NB140_139.out
       have hcz71_0 : wc.cell? ⟨gb139, 0, none⟩ = some (.slice A0_0 l0_0.length c0_0) := (zC BK139.out 0).trans rfl
       have hcz71_1 : wc.cell? ⟨gb139, 1, none⟩ = some (.slice A0_1 l0_1.length c0_1) := (zC BK139.out 1).trans rfl
       have hfz71_0 := zF BK139.out 0
       have hfz71_1 := zF BK139.out 1
       go_upto_region 7 with (first | ((with_reducible refine gate_callee (f := 58) rfl ?_); refine goesL_ (some 36) rfl rfl Try.func58 (by kernel_rfl) rfl #[.agg #[.slice A0_0 l0_0.length c0_0, .slice A0_1 l0_1.length c0_1]] rfl (by (try simp only [List.map_toArray, List.map_cons, List.map_nil]); first | done | rfl | (simp only [List.length_drop, List.length_take]; rfl)) ?_; (with_reducible refine (spec_l13Copy.calls _ _ l0_0 _ _ l0_1 t145 t148 _ ?side1 ?side2 ?side3 ?side4 A33.out).mono ?_); (case side1 => repeat (first | exact (Kd.C_below HR0_0.out HB.out) | (with_reducible refine Kd.C_alloc ?_ _) | (with_reducible refine Kd.C_drewN ?_ _) | (with_reducible refine Kd.C_drew ?_))); (case side2 => exact HC0_0.out); (case side3 => repeat (first | exact (Kd.C_below HR0_1.out HB.out) | (with_reducible refine Kd.C_alloc ?_ _) | (with_reducible refine Kd.C_drewN ?_ _) | (with_reducible refine Kd.C_drew ?_))); (case side4 => exact HC0_1.out); rintro e w72 ⟨v146, v149, rfl, ho0, ho1, hb⟩; refine ⟨_, rfl, ?_⟩; have n0_ := qM (Kd.R_lower ho0 (below_size (by repeat (first | (with_reducible first | exact HB.out | apply yA | apply yN | apply yD | refine yS ?_ GE139.out | refine yS ?_ GE140.out) | exact HB.out)))); have n1_ := qM (Kd.R_lower ho1 (below_size (by repeat (first | (with_reducible first | exact HB.out | apply yA | apply yN | apply yD | refine yS ?_ GE139.out | refine yS ?_ GE140.out) | exact HB.out)))); have n2_ := qM (blk_below (g := gb139) (o := .cells #[.slice A0_0 l0_0.length c0_0, .slice A0_1 l0_1.length c0_1] 37 (0, 0)) (by (with_reducible repeat (first | refine zN ?_ _ | refine zD ?_ | refine zA ?_ _)); exact BK139.out) hb); have n3_ := qM (blk_below (g := gb140) (o := .cells #[.slice none 0 0, .slice none 0 0] 37 (0, 0)) (by (with_reducible repeat (first | refine zN ?_ _ | refine zD ?_ | refine zA ?_ _)); exact BK140.out) hb); have n4_ := qM (below_step (by repeat (first | (with_reducible first | exact HB.out | apply yA | apply yN | apply yD | refine yS ?_ GE139.out | refine yS ?_ GE140.out) | exact HB.out)) hb); clear BK139; clear BK140; clear HB; have HO147 := n0_; have HO150 := n1_; have BK139 := n2_; have BK140 := n3_; have HB := n4_; clear n0_ n1_ n2_ n3_ n4_; (try clear hb); (try clear hb2); (try clear hk); (try clear hi); (try clear ho0); (try clear ho1)) | ((with_reducible refine gate_dst (N := 10) rfl ?_); (try (refine gate_guard (by rfl) ?_; dsimp only)); refine box_event ?hg (N := 10) ?hd (cs := #[.slice none 0 0, .slice none 0 0]) (t := 37) ?hr ?_; (case hd => rfl); (case hg => rfl); (case hr => first | (go_simp; done) | (go_simp; rfl)); intro gb151 hg w73 hbox hb; have n0_ := qM (Kd.R_below (by (with_reducible repeat (first | apply qA | apply qN | apply qD)); exact HO147.out) hb); have n1_ := qM (Kd.R_below (by (with_reducible repeat (first | apply qA | apply qN | apply qD)); exact HO150.out) hb); have n2_ := qM (blk_below (g := gb139) (o := .cells #[.slice A0_0 l0_0.length c0_0, .slice A0_1 l0_1.length c0_1] 37 (0, 0)) (by (with_reducible repeat (first | refine zN ?_ _ | refine zD ?_ | refine zA ?_ _)); exact BK139.out) hb); have n3_ := qM (blk_below (g := gb140) (o := .cells #[.slice none 0 0, .slice none 0 0] 37 (0, 0)) (by (with_reducible repeat (first | refine zN ?_ _ | refine zD ?_ | refine zA ?_ _)); exact BK140.out) hb); have n4_ := qM (below_step (by repeat (first | (with_reducible first | exact HB.out | apply yA | apply yN | apply yD | refine yS ?_ GE139.out | refine yS ?_ GE140.out) | exact HB.out)) hb); have n5_ := qM (hbox); have n6_ := qM ((by rw [hg]; exact (below_size (by repeat (first | (with_reducible first | exact HB.out | apply yA | apply yN | apply yD | refine yS ?_ GE139.out | refine yS ?_ GE140.out) | exact HB.out))) : w.heap.size ≤ gb151)); have n7_ := qM ((by rw [hg]; exact (below_size (by repeat (first | (with_reducible first | exact HB.out | apply yA | apply yN | apply yD | refine yS ?_ GE139.out | refine yS ?_ GE140.out) | exact HB.out))) : w.heap.size ≤ gb151)); have n8_ := qM ((by rw [hg]; exact Nat.ne_of_lt (blk_lt (g := gb139) (o := .cells #[.slice A0_0 l0_0.length c0_0, .slice A0_1 l0_1.length c0_1] 37 (0, 0)) (by (with_reducible repeat (first | refine zN ?_ _ | refine zD ?_ | refine zA ?_ _)); exact BK139.out)) : gb139 ≠ gb151)); have n9_ := qM ((by rw [hg]; exact Nat.ne_of_gt (blk_lt (g := gb139) (o := .cells #[.slice A0_0 l0_0.length c0_0, .slice A0_1 l0_1.length c0_1] 37 (0, 0)) (by (with_reducible repeat (first | refine zN ?_ _ | refine zD ?_ | refine zA ?_ _)); exact BK139.out)) : gb151 ≠ gb139)); have n10_ := qM ((by rw [hg]; exact Nat.ne_of_lt (blk_lt (g := gb140) (o := .cells #[.slice none 0 0, .slice none 0 0] 37 (0, 0)) (by (with_reducible repeat (first | refine zN ?_ _ | refine zD ?_ | refine zA ?_ _)); exact BK140.out)) : gb140 ≠ gb151)); have n11_ := qM ((by rw [hg]; exact Nat.ne_of_gt (blk_lt (g := gb140) (o := .cells #[.slice none 0 0, .slice none 0 0] 37 (0, 0)) (by (with_reducible repeat (first | refine zN ?_ _ | refine zD ?_ | refine zA ?_ _)); exact BK140.out)) : gb151 ≠ gb140)); clear HO147; clear HO150; clear BK139; clear BK140; clear HB; have HO147 := n0_; have HO150 := n1_; have BK139 := n2_; have BK140 := n3_; have HB := n4_; have BK151 := n5_; have GW151 := n6_; have GE151 := n7_; have NB139_151 := n8_; have NB151_139 := n9_; have NB140_151 := n10_; have NB151_140 := n11_; clear n0_ n1_ n2_ n3_ n4_ n5_ n6_ n7_ n8_ n9_ n10_ n11_; clear hb hbox hg; obtain ⟨Ao74, co74, eo74⟩ := Kd.R_slice HO147.out; subst eo74; have hnb75 := NB151_139.out; have hnc75 := NB139_151.out; have hnb76 := NB151_140.out; have hnc76 := NB140_151.out; have hcz77_0 : w73.cell? ⟨gb151, 0, none⟩ = some (.slice none 0 0) := (zC BK151.out 0).trans rfl; have hcz77_1 : w73.cell? ⟨gb151, 1, none⟩ = some (.slice none 0 0) := (zC BK151.out 1).trans rfl; have hfz77_0 := zF BK151.out 0; have hfz77_1 := zF BK151.out 1; obtain ⟨Ao78, co78, eo78⟩ := Kd.R_slice HO150.out; subst eo78; have p152 : 0 ≤ (a1 : Int) := of_decide_eq_true (by first | (with_reducible assumption) | assumption); have q152 : a1 < (t145.length : Int) := of_decide_eq_true (by first | (with_reducible assumption) | assumption); obtain ⟨ad152, e152, hx152_0⟩ := Kd.at_int (qR HO147.out).2.2 a1 p152 q152; cases e152; have hn152_0 : ad152.block ≠ gb151 := Kd.own_blk (Kd.R_ne HO147.out BK151.out (by decide)); have hn152_1 : ad152.block ≠ gb151 := Kd.own_blk (Kd.R_ne HO147.out BK151.out (by decide)); replace hx152_0 := (cell_far (p := ⟨gb151, 0, none⟩) (by first | (rw [add_block]; exact hn152_0) | (show (Addr.add _ _).block ≠ _; rw [add_block]; exact hn152_0) | exact hn152_0) (.slice (some ad152) t145.length co74)).trans hx152_0; replace hx152_0 := (cell_far (p := ⟨gb151, 1, none⟩) (by first | (rw [add_block]; exact hn152_1) | (show (Addr.add _ _).block ≠ _; rw [add_block]; exact hn152_1) | exact hn152_1) (.slice Ao78 t148.length co78)).trans hx152_0; clear hn152_0; clear hn152_1; replace p152 := eq_true p152; replace q152 := eq_true q152))
       (try simp only [Act.put, List.setIfInBounds_toArray, List.set_cons_zero, List.set_cons_succ])
       go_cut [59] (fun v59 wc => ∃ (kq : Nat) (x59_68 : Bool), v59 = .bool x59_68 ∧ Aside0 (spec_HrdHear.j1 kq a1 a2 a3 3 x59_68 t145 t148 = some (r1, r2, r3)) ∧ Aside0 (kq ≤ kj4) ∧ Aside0 (Kd.R (Kd.int .i64) 3 wc w.heap.size (fun k_ => some k_ ≠ ((.slice Ao78 t148.length co78) : Value).ownBlock) (.slice (some ad152) t145.length co74) t145) ∧ Aside0 (Kd.R (Kd.int .i64) 3 wc w.heap.size (fun k_ => some k_ ≠ ((.slice (some ad152) t145.length co74) : Value).ownBlock) (.slice Ao78 t148.length co78) t148) ∧ Aside0 (wc.heap[gb139]? = some (.cells #[(.slice A0_0 l0_0.length c0_0), (.slice A0_1 l0_1.length c0_1)] 37 (0, 0))) ∧ Aside0 (wc.heap[gb140]? = some (.cells #[(.slice none 0 0), (.slice none 0 0)] 37 (0, 0))) ∧ Aside0 (wc.heap[gb151]? = some (.cells #[(.slice (some ad152) t145.length co74), (.slice Ao78 t148.length co78)] 37 (0, 0))) ∧ Aside0 (Below w.heap.size w wc))
       case first =>
        have H := HC69.out
        clear HC69
        by_cases c79 : a2 = (rd t145 a1)
        ·rw [if_pos c79] at H
         have c79b0 : (a2 == (rd t145 a1)) = true := beq_iff_eq.mpr c79
         have c79b1 : (a2 != (rd t145 a1)) = false := bne_eq_false_iff_eq.mpr c79
         clear c79
         (first | rw [c79b0] | (simp only [i64_w, i32_w]; rw [c79b0]) | skip)
         by_cases c80 : a1 < (t148.length : Int)
         ·rw [if_pos c80] at H
          have c80b0 : decide (a1 < (t148.length : Int)) = true := decide_eq_true c80
          clear c80
          have H' := qM H
          clear H
          have hnb81 := NB151_139.out
          have hnc81 := NB139_151.out
          have hnb82 := NB151_140.out
          have hnc82 := NB140_151.out
          have hcz83_0 : w73.cell? ⟨gb151, 0, none⟩ = some (.slice none 0 0) := (zC BK151.out 0).trans rfl
          have hcz83_1 : w73.cell? ⟨gb151, 1, none⟩ = some (.slice none 0 0) := (zC BK151.out 1).trans rfl
          have hfz83_0 := zF BK151.out 0
          have hfz83_1 := zF BK151.out 1
          have p155 : 0 ≤ (a1 : Int) := of_decide_eq_true (by first | (with_reducible assumption) | assumption)
          have q155 : a1 < (t145.length : Int) := of_decide_eq_true (by first | (with_reducible assumption) | assumption)
          obtain ⟨ad155, e155, hx155_0⟩ := Kd.at_int (qR HO147.out).2.2 a1 p155 q155
          obtain rfl : ad152 = ad155 := (by injection e155)
          have hn155_0 : ad152.block ≠ gb151 := Kd.own_blk (Kd.R_ne HO147.out BK151.out (by decide))
          have hn155_1 : ad152.block ≠ gb151 := Kd.own_blk (Kd.R_ne HO147.out BK151.out (by decide))
          replace hx155_0 := (cell_far (p := ⟨gb151, 0, none⟩) (by first | (rw [add_block]; exact hn155_0) | (show (Addr.add _ _).block ≠ _; rw [add_block]; exact hn155_0) | exact hn155_0) (.slice (some ad152) t145.length co74)).trans hx155_0
          replace hx155_0 := (cell_far (p := ⟨gb151, 1, none⟩) (by first | (rw [add_block]; exact hn155_1) | (show (Addr.add _ _).block ≠ _; rw [add_block]; exact hn155_1) | exact hn155_1) (.slice Ao78 t148.length co78)).trans hx155_0
          clear hn155_0
          clear hn155_1
          replace p155 := eq_true p155
          replace q155 := eq_true q155
          have p156 : 0 ≤ (a1 : Int) := of_decide_eq_true (by first | (with_reducible assumption) | assumption)
          have q156 : a1 < (t148.length : Int) := of_decide_eq_true (by first | (with_reducible assumption) | assumption)
          obtain ⟨ad156, e156, hx156_0⟩ := Kd.at_int (qR HO150.out).2.2 a1 p156 q156
          cases e156
          have hn156_0 : ad156.block ≠ gb151 := Kd.own_blk (Kd.R_ne HO150.out BK151.out (by decide))
          have hn156_1 : ad156.block ≠ gb151 := Kd.own_blk (Kd.R_ne HO150.out BK151.out (by decide))
          replace hx156_0 := (cell_far (p := ⟨gb151, 0, none⟩) (by first | (rw [add_block]; exact hn156_0) | (show (Addr.add _ _).block ≠ _; rw [add_block]; exact hn156_0) | exact hn156_0) (.slice (some ad152) t145.length co74)).trans hx156_0
          replace hx156_0 := (cell_far (p := ⟨gb151, 1, none⟩) (by first | (rw [add_block]; exact hn156_1) | (show (Addr.add _ _).block ≠ _; rw [add_block]; exact hn156_1) | exact hn156_1) (.slice (some ad156) t148.length co78)).trans hx156_0
          clear hn156_0
          clear hn156_1
          replace p156 := eq_true p156
          replace q156 := eq_true q156
          go_wp2
          go_meet
          case rel => exact ⟨_, (decide (a3 > (rd t148 a1))), (by first | rfl | (simp; done) | (simp [*]; done)), H', ⟨by have := HJ4.out; first | omega | exact Nat.le_refl _⟩, ⟨by (with_reducible repeat (first | apply qA | apply qN | apply qD)); exact Kd.R_mono (qF (p := ⟨gb151, 1, none⟩) (qF (p := ⟨gb151, 0, none⟩) (Kd.R_types HO147.out BK151.out (by decide)) (fun _ hk => hk.2) (.slice (some ad152) t145.length co74)) (fun _ hk => hk.2) (.slice (some ad156) t148.length co78)) (fun _ hk => hk.1)⟩, ⟨by (with_reducible repeat (first | apply qA | apply qN | apply qD)); exact Kd.R_mono (qF (p := ⟨gb151, 1, none⟩) (qF (p := ⟨gb151, 0, none⟩) (Kd.R_types HO150.out BK151.out (by decide)) (fun _ hk => hk.2) (.slice (some ad152) t145.length co74)) (fun _ hk => hk.2) (.slice (some ad156) t148.length co78)) (fun _ hk => hk.1)⟩, ⟨by (with_reducible repeat (first | refine zN ?_ _ | refine zD ?_ | refine zA ?_ _)); refine blk_far ?_ NB139_151.out _; (with_reducible repeat (first | refine zN ?_ _ | refine zD ?_ | refine zA ?_ _)); refine blk_far ?_ NB139_151.out _; (with_reducible repeat (first | refine zN ?_ _ | refine zD ?_ | refine zA ?_ _)); exact BK139.out⟩, ⟨by (with_reducible repeat (first | refine zN ?_ _ | refine zD ?_ | refine zA ?_ _)); refine blk_far ?_ NB140_151.out _; (with_reducible repeat (first | refine zN ?_ _ | refine zD ?_ | refine zA ?_ _)); refine blk_far ?_ NB140_151.out _; (with_reducible repeat (first | refine zN ?_ _ | refine zD ?_ | refine zA ?_ _)); exact BK140.out⟩, ⟨by (with_reducible repeat (first | refine zN ?_ _ | refine zD ?_ | refine zA ?_ _)); refine blk_put (cs := #[.slice (some ad152) t145.length co74, .slice none 0 0]) ?_ 1 _ rfl; (with_reducible repeat (first | refine zN ?_ _ | refine zD ?_ | refine zA ?_ _)); refine blk_put (cs := #[.slice none 0 0, .slice none 0 0]) ?_ 0 _ rfl; (with_reducible repeat (first | refine zN ?_ _ | refine zD ?_ | refine zA ?_ _)); exact BK151.out⟩, ⟨by repeat (first | (with_reducible first | exact HB.out | apply yA | apply yN | apply yD | refine yS ?_ GE139.out | refine yS ?_ GE140.out | refine yS ?_ GE151.out) | exact HB.out)⟩⟩
         ·rw [if_neg c80] at H
          exact absurd H (by simp)
        ·rw [if_neg c79] at H
         have c79b0 : (a2 == (rd t145 a1)) = false := beq_eq_false_iff_ne.mpr c79
         have c79b1 : (a2 != (rd t145 a1)) = true := bne_iff_ne.mpr c79
         (first | rw [c79b0] | (simp only [i64_w, i32_w]; rw [c79b0]) | skip)
         have H' := qM H
         clear H
         have hnb84 := NB151_139.out
         have hnc84 := NB139_151.out
         have hnb85 := NB151_140.out
         have hnc85 := NB140_151.out
         have hcz86_0 : w73.cell? ⟨gb151, 0, none⟩ = some (.slice none 0 0) := (zC BK151.out 0).trans rfl
         have hcz86_1 : w73.cell? ⟨gb151, 1, none⟩ = some (.slice none 0 0) := (zC BK151.out 1).trans rfl
         have hfz86_0 := zF BK151.out 0
         have hfz86_1 := zF BK151.out 1
         have p155 : 0 ≤ (a1 : Int) := of_decide_eq_true (by first | (with_reducible assumption) | assumption)
         have q155 : a1 < (t145.length : Int) := of_decide_eq_true (by first | (with_reducible assumption) | assumption)
         obtain ⟨ad155, e155, hx155_0⟩ := Kd.at_int (qR HO147.out).2.2 a1 p155 q155
         obtain rfl : ad152 = ad155 := (by injection e155)
         have hn155_0 : ad152.block ≠ gb151 := Kd.own_blk (Kd.R_ne HO147.out BK151.out (by decide))
         have hn155_1 : ad152.block ≠ gb151 := Kd.own_blk (Kd.R_ne HO147.out BK151.out (by decide))
         replace hx155_0 := (cell_far (p := ⟨gb151, 0, none⟩) (by first | (rw [add_block]; exact hn155_0) | (show (Addr.add _ _).block ≠ _; rw [add_block]; exact hn155_0) | exact hn155_0) (.slice (some ad152) t145.length co74)).trans hx155_0
         replace hx155_0 := (cell_far (p := ⟨gb151, 1, none⟩) (by first | (rw [add_block]; exact hn155_1) | (show (Addr.add _ _).block ≠ _; rw [add_block]; exact hn155_1) | exact hn155_1) (.slice Ao78 t148.length co78)).trans hx155_0
         clear hn155_0
         clear hn155_1
         replace p155 := eq_true p155
         replace q155 := eq_true q155
         go_wp2
         go_meet
         case rel => exact ⟨_, (false), (by first | rfl | (simp; done) | (simp [*]; done)), H', ⟨by have := HJ4.out; first | omega | exact Nat.le_refl _⟩, ⟨by (with_reducible repeat (first | apply qA | apply qN | apply qD)); exact Kd.R_mono (qF (p := ⟨gb151, 1, none⟩) (qF (p := ⟨gb151, 0, none⟩) (Kd.R_types HO147.out BK151.out (by decide)) (fun _ hk => hk.2) (.slice (some ad152) t145.length co74)) (fun _ hk => hk.2) (.slice Ao78 t148.length co78)) (fun _ hk => hk.1)⟩, ⟨by (with_reducible repeat (first | apply qA | apply qN | apply qD)); exact Kd.R_mono (qF (p := ⟨gb151, 1, none⟩) (qF (p := ⟨gb151, 0, none⟩) (Kd.R_types HO150.out BK151.out (by decide)) (fun _ hk => hk.2) (.slice (some ad152) t145.length co74)) (fun _ hk => hk.2) (.slice Ao78 t148.length co78)) (fun _ hk => hk.1)⟩, ⟨by (with_reducible repeat (first | refine zN ?_ _ | refine zD ?_ | refine zA ?_ _)); refine blk_far ?_ NB139_151.out _; (with_reducible repeat (first | refine zN ?_ _ | refine zD ?_ | refine zA ?_ _)); refine blk_far ?_ NB139_151.out _; (with_reducible repeat (first | refine zN ?_ _ | refine zD ?_ | refine zA ?_ _)); exact BK139.out⟩, ⟨by (with_reducible repeat (first | refine zN ?_ _ | refine zD ?_ | refine zA ?_ _)); refine blk_far ?_ NB140_151.out _; (with_reducible repeat (first | refine zN ?_ _ | refine zD ?_ | refine zA ?_ _)); refine blk_far ?_ NB140_151.out _; (with_reducible repeat (first | refine zN ?_ _ | refine zD ?_ | refine zA ?_ _)); exact BK140.out⟩, ⟨by (with_reducible repeat (first | refine zN ?_ _ | refine zD ?_ | refine zA ?_ _)); refine blk_put (cs := #[.slice (some ad152) t145.length co74, .slice none 0 0]) ?_ 1 _ rfl; (with_reducible repeat (first | refine zN ?_ _ | refine zD ?_ | refine zA ?_ _)); refine blk_put (cs := #[.slice none 0 0, .slice none 0 0]) ?_ 0 _ rfl; (with_reducible repeat (first | refine zN ?_ _ | refine zD ?_ | refine zA ?_ _)); exact BK151.out⟩, ⟨by repeat (first | (with_reducible first | exact HB.out | apply yA | apply yN | apply yD | refine yS ?_ GE139.out | refine yS ?_ GE140.out | refine yS ?_ GE151.out) | exact HB.out)⟩⟩
       case rest =>
        clear HC69
        try clear c1
        try clear p1
        try clear q1
        try clear hx1
        try clear c2
        try clear p2
        try clear c3
        try clear p3
        try clear q3
        try clear hx3
        try clear c4
        try clear p4
        try clear q4
        try clear hx4
        try clear hf4
        try clear c5
        try clear c6
        try clear p6
        try clear c7
        try clear c8
        try clear c9
        try clear c11
        try clear c13
        try clear c15
        try clear p15
        try clear q15
        try clear hx15
        try clear c19
        try clear c23
        try clear c27
        try clear c30
        try clear c31
        try clear c34
        try clear c34b0
        try clear c35
        try clear c35b0
        try clear c36
        try clear c36b0
        try clear c37
        try clear c37b0
        try clear p38
        try clear q38
        try clear hx38
        try clear hf38
        try clear c39
        try clear c39b0
        try clear p40
        try clear q40
        try clear hx40
        try clear hf40
        try clear c41
        try clear c46
        try clear c47
        try clear c57
        try clear c58
        try clear c59
        try clear c64
        try clear p64
        try clear c65
        try clear c70
        try clear c75
        try clear c76
        try clear c79
        try clear c79b0
        try clear c79b1
        try clear c80
        try clear c80b0
        try clear c81
        try clear c82
        try clear c84
        try clear c85
        try clear hcz16_0
        try clear hcz16_1
        try clear hcz18_0
        try clear hcz18_1
        try clear hcz20_0
        try clear hcz20_1
        try clear hcz22_0
        try clear hcz22_1
        try clear hcz24_0
        try clear hcz24_1
        try clear hcz26_0
        try clear hcz26_1
        try clear hcz28_0
        try clear hcz28_1
        try clear hcz32_0
        try clear hcz32_1
        try clear hcz42_0
        try clear hcz42_1
        try clear hcz48_0
        try clear hcz48_1
        try clear hcz51_0
        try clear hcz51_1
        try clear hcz54_0
        try clear hcz54_1
        try clear hcz57_0
        try clear hcz57_1
        try clear hcz58_0
        try clear hcz58_1
        try clear hcz60_0
        try clear hcz60_1
        try clear hcz66_0
        try clear hcz66_1
        try clear hcz68_0
        try clear hcz68_1
        try clear hcz71_0
        try clear hcz71_1
        try clear hcz77_0
        try clear hcz77_1
        try clear hcz83_0
        try clear hcz83_1
        try clear hcz86_0
        try clear hcz86_1
        try clear hfz16_0
        try clear hfz16_1
        try clear hfz18_0
        try clear hfz18_1
        try clear hfz20_0
        try clear hfz20_1
        try clear hfz22_0
        try clear hfz22_1
        try clear hfz24_0
        try clear hfz24_1
        try clear hfz26_0
        try clear hfz26_1
        try clear hfz28_0
        try clear hfz28_1
        try clear hfz32_0
        try clear hfz32_1
        try clear hfz42_0
        try clear hfz42_1
        try clear hfz48_0
        try clear hfz48_1
        try clear hfz51_0
        try clear hfz51_1
        try clear hfz54_0
        try clear hfz54_1
        try clear hfz57_0
        try clear hfz57_1
        try clear hfz58_0
        try clear hfz58_1
        try clear hfz60_0
        try clear hfz60_1
        try clear hfz66_0
        try clear hfz66_1
        try clear hfz68_0
        try clear hfz68_1
        try clear hfz71_0
        try clear hfz71_1
        try clear hfz77_0
        try clear hfz77_1
        try clear hfz83_0
        try clear hfz83_1
        try clear hfz86_0
        try clear hfz86_1
        try clear hx152_0
        try clear hx155_0
        try clear hx156_0
        try clear hx38_0
        try clear hx40_0
        try clear p152
        try clear p155
        try clear p156
        try clear p2
        try clear p38
        try clear p40
        try clear p6
        try clear q152
        try clear q155
        try clear q156
        try clear q38
        try clear q40
        obtain ⟨kq, x59_68, rfl, HA, HJ68, HO_152000, HO_152001, BK139, BK140, BK151, HB⟩ := hcut
        cases kq with
        | zero => exact absurd HA.out (by simp [spec_HrdHear.j1])
        | succ kj68 =>
         have H := HA.out
         clear HA
         simp only [spec_HrdHear.j1] at H
         by_cases c87 : x59_68 = true
         ·subst c87
          have H1 : (if 2 < 3 then (if 0 ≤ a1 then (if a1 < (t145.length : Int) then (if a1 < (t148.length : Int) then (some ((t145.set (a1 : Int).toNat a2), (t148.set (a1 : Int).toNat a3), 2)) else (none)) else (none)) else (none)) else (some (t145, t148, 2))) = some (r1, r2, r3) := by rw [if_pos rfl] at H; exact H
          clear H
          have H := H1
          clear H1
          by_cases c88 : 2 < 3
          ·rw [if_pos c88] at H
           have c88b0 : decide (2 < 3) = true := decide_eq_true c88
           clear c88
           by_cases c89 : 0 ≤ a1
           ·rw [if_pos c89] at H
            have c89b0 : decide (0 ≤ a1) = true := decide_eq_true c89
            clear c89
            by_cases c90 : a1 < (t145.length : Int)
            ·rw [if_pos c90] at H
             have c90b0 : decide (a1 < (t145.length : Int)) = true := decide_eq_true c90
             clear c90
             obtain ⟨y157, hy157⟩ : ∃ y_ : List Int, y_ = (t145.set (a1 : Int).toNat a2) := ⟨_, rfl⟩
             replace H : (if a1 < (t148.length : Int) then (some (y157, (t148.set (a1 : Int).toNat a3), 2)) else (none)) = some (r1, r2, r3) := by first | (rw [hy157]; with_reducible exact H) | (have H2_ := (Option.bind_some _ _).symm.trans H; rw [hy157]; with_reducible exact H2_) | (have H2_ := (Option.bind_some _ _).symm.trans H; with_reducible exact H2_) | with_reducible exact H | (rw [hy157]; exact H) | exact H
             have Ny157 := qM hy157
             clear hy157
             by_cases c92 : a1 < (t148.length : Int)
             ·rw [if_pos c92] at H
              have c92b0 : decide (a1 < (t148.length : Int)) = true := decide_eq_true c92
              clear c92
              obtain ⟨y158, hy158⟩ : ∃ y_ : List Int, y_ = (t148.set (a1 : Int).toNat a3) := ⟨_, rfl⟩
              replace H : (some (y157, y158, 2)) = some (r1, r2, r3) := by first | (rw [hy158]; with_reducible exact H) | (have H2_ := (Option.bind_some _ _).symm.trans H; rw [hy158]; with_reducible exact H2_) | (have H2_ := (Option.bind_some _ _).symm.trans H; with_reducible exact H2_) | with_reducible exact H | (rw [hy158]; exact H) | exact H
              have Ny158 := qM hy158
              clear hy158
              simp only [Option.some.injEq, Prod.mk.injEq] at H
              obtain ⟨rfl, rfl, rfl⟩ := H
              have hnb94 := NB151_139.out
              have hnc94 := NB139_151.out
              have hnb95 := NB151_140.out
              have hnc95 := NB140_151.out
              have hcz96_0 : wc.cell? ⟨gb151, 0, none⟩ = some (.slice (some ad152) t145.length co74) := (zC BK151.out 0).trans rfl
              have hcz96_1 : wc.cell? ⟨gb151, 1, none⟩ = some (.slice Ao78 t148.length co78) := (zC BK151.out 1).trans rfl
              have hfz96_0 := zF BK151.out 0
              have hfz96_1 := zF BK151.out 1
              have p91 : 0 ≤ (a1 : Int) := of_decide_eq_true (by first | (with_reducible assumption) | assumption)
              have q91 : (a1 : Int) < ((t145.length : Int) : Int) := of_decide_eq_true (by first | (with_reducible assumption) | assumption)
              obtain ⟨go91, co91, eo91, gb91, gl91, cl91, HG91⟩ := Kd.R_form HO_152000.out (by omega)
              (first | cases eo91 | (injection eo91 with ea_ en_ ec_; (first | subst ea_ | (injection ea_ with ea_; subst ea_)); subst ec_; clear en_))
              have GB91 := qM gb91
              have GG91 := qM HG91
              clear gb91 gl91 HG91
              (first | simp only [add_plain] at hx152_0 | skip)
              (first | simp only [add_plain] at hx155_0 | skip)
              obtain ⟨hx91_0, hf91_0⟩ := Kd.R_celln 0 HO_152000.out (a1 : Int) p91 q91
              replace p91 := eq_true p91
              replace q91 := eq_true q91
              have HP97 := Kd.R_putg HO_152000.out (a1 : Int) a2
              go_wp2_with (first | ((with_reducible refine gate_store (t := 3) (p := 66) rfl ?_); refine store_event (t := 3) (p := 66) (v := ?vo_w98) (w1 := (wc.setCell ⟨go91, (a1 : Int).toNat, none⟩ (.int .i64 a2))) ?hg ?ho ?hn ?hr ?_; (case ho => rfl); (case hg => rfl); (case hn => rfl); (case hr => first | (go_simp; done) | (go_simp; rfl)); intro w98 hw; have hg : wc.grownBy w98 (some go91) := (by rw [hw]; exact HP97.2); have hp_ : Kd.R (Kd.int .i64) 3 w98 w.heap.size (fun k_ => some k_ ≠ (.slice Ao78 t148.length co78 : Value).ownBlock) (.slice (some ⟨go91, 0, none⟩) t145.length co74) y157 := (by rw [hw, Ny157.out]; exact HP97.1); clear HP97; have n0_ := qM (hp_); have n1_ := qM (Kd.R_after (v := (.slice (some ⟨go91, 0, none⟩) t145.length co74)) (v1 := (.slice (some ⟨go91, 0, none⟩) t145.length co74)) (ok := (fun _ => True)) (by (with_reducible repeat (first | apply qA | apply qN | apply qD)); exact Kd.R_mono HO_152001.out (fun _ hk => ⟨trivial, hk⟩)) hg (.inl rfl)); have n2_ := qM (blk_grown (g := gb139) (o := .cells #[.slice A0_0 l0_0.length c0_0, .slice A0_1 l0_1.length c0_1] 37 (0, 0)) (by (with_reducible repeat (first | refine zN ?_ _ | refine zD ?_ | refine zA ?_ _)); exact BK139.out) hg (Kd.R_ne HO_152000.out BK139.out (by decide))); have n3_ := qM (blk_grown (g := gb140) (o := .cells #[.slice none 0 0, .slice none 0 0] 37 (0, 0)) (by (with_reducible repeat (first | refine zN ?_ _ | refine zD ?_ | refine zA ?_ _)); exact BK140.out) hg (Kd.R_ne HO_152000.out BK140.out (by decide))); have n4_ := qM (blk_grown (g := gb151) (o := .cells #[.slice (some ⟨go91, 0, none⟩) t145.length co74, .slice Ao78 t148.length co78] 37 (0, 0)) (by (with_reducible repeat (first | refine zN ?_ _ | refine zD ?_ | refine zA ?_ _)); exact BK151.out) hg (Kd.R_ne HO_152000.out BK151.out (by decide))); have n5_ := qM ((by rw [hw]; exact yS (HB.out) GB91.out : Below w.heap.size w w98)); clear HO_152000; clear HO_152001; clear BK139; clear BK140; clear BK151; clear HB; have HO_152000 := n0_; have HO_152001 := n1_; have BK139 := n2_; have BK140 := n3_; have BK151 := n4_; have HB := n5_; clear n0_ n1_ n2_ n3_ n4_ n5_; clear hg hw hp_; have hcz99_0 : w98.cell? ⟨gb151, 0, none⟩ = some (.slice (some ⟨go91, 0, none⟩) t145.length co74) := (zC BK151.out 0).trans rfl; have hcz99_1 : w98.cell? ⟨gb151, 1, none⟩ = some (.slice Ao78 t148.length co78) := (zC BK151.out 1).trans rfl; have hfz99_0 := zF BK151.out 0; have hfz99_1 := zF BK151.out 1; have p93 : 0 ≤ (a1 : Int) := of_decide_eq_true (by first | (with_reducible assumption) | assumption); have q93 : (a1 : Int) < ((t148.length : Int) : Int) := of_decide_eq_true (by first | (with_reducible assumption) | assumption); obtain ⟨go93, co93, eo93, gb93, gl93, cl93, HG93⟩ := Kd.R_form HO_152001.out (by omega); (first | cases eo93 | (injection eo93 with ea_ en_ ec_; (first | subst ea_ | (injection ea_ with ea_; subst ea_)); subst ec_; clear en_)); have GB93 := qM gb93; have GG93 := qM HG93; clear gb93 gl93 HG93; obtain ⟨hx93_0, hf93_0⟩ := Kd.R_celln 0 HO_152001.out (a1 : Int) p93 q93; replace p93 := eq_true p93; replace q93 := eq_true q93; have n_ := qM (Kd.R_mono (ok' := (fun k_ => some k_ ≠ (.slice (some ⟨go91, 0, none⟩) t145.length co74 : Value).ownBlock)) HO_152001.out (fun k_ hk => hk.2)); clear HO_152001; have HO_152001 := n_; clear n_; obtain ⟨hy100_, hz100_⟩ := Kd.R_celln 0 HO_152001.out (a1 : Int) (of_decide_eq_true (by first | (with_reducible assumption) | assumption)) (of_decide_eq_true (by first | (with_reducible assumption) | assumption)); have HP100 := Kd.R_putg HO_152001.out (a1 : Int) a3) | ((with_reducible refine gate_store (t := 3) (p := 71) rfl ?_); refine store_event (t := 3) (p := 71) (v := ?vo_w101) (w1 := (w98.setCell ⟨go93, (a1 : Int).toNat, none⟩ (.int .i64 a3))) ?hg ?ho ?hn ?hr ?_; (case ho => rfl); (case hg => rfl); (case hn => rfl); (case hr => first | (go_simp; done) | (go_simp; rfl)); intro w101 hw; have hg : w98.grownBy w101 (some go93) := (by rw [hw]; exact HP100.2); have hp_ : Kd.R (Kd.int .i64) 3 w101 w.heap.size (fun k_ => some k_ ≠ (.slice (some ⟨go91, 0, none⟩) t145.length co74 : Value).ownBlock) (.slice (some ⟨go93, 0, none⟩) t148.length co78) y158 := (by rw [hw, Ny158.out]; exact HP100.1); clear HP100; have n0_ := qM (Kd.R_after (v := (.slice (some ⟨go93, 0, none⟩) t148.length co78)) (v1 := (.slice (some ⟨go93, 0, none⟩) t148.length co78)) (ok := (fun _ => True)) (by (with_reducible repeat (first | apply qA | apply qN | apply qD)); exact Kd.R_mono HO_152000.out (fun _ hk => ⟨trivial, hk⟩)) hg (.inl rfl)); have n1_ := qM (hp_); have n2_ := qM (blk_grown (g := gb139) (o := .cells #[.slice A0_0 l0_0.length c0_0, .slice A0_1 l0_1.length c0_1] 37 (0, 0)) (by (with_reducible repeat (first | refine zN ?_ _ | refine zD ?_ | refine zA ?_ _)); exact BK139.out) hg (Kd.R_ne HO_152001.out BK139.out (by decide))); have n3_ := qM (blk_grown (g := gb140) (o := .cells #[.slice none 0 0, .slice none 0 0] 37 (0, 0)) (by (with_reducible repeat (first | refine zN ?_ _ | refine zD ?_ | refine zA ?_ _)); exact BK140.out) hg (Kd.R_ne HO_152001.out BK140.out (by decide))); have n4_ := qM (blk_grown (g := gb151) (o := .cells #[.slice (some ⟨go91, 0, none⟩) t145.length co74, .slice (some ⟨go93, 0, none⟩) t148.length co78] 37 (0, 0)) (by (with_reducible repeat (first | refine zN ?_ _ | refine zD ?_ | refine zA ?_ _)); exact BK151.out) hg (Kd.R_ne HO_152001.out BK151.out (by decide))); have n5_ := qM ((by rw [hw]; exact yS (HB.out) GB93.out : Below w.heap.size w w101)); clear HO_152000; clear HO_152001; clear BK139; clear BK140; clear BK151; clear HB; have HO_152000 := n0_; have HO_152001 := n1_; have BK139 := n2_; have BK140 := n3_; have BK151 := n4_; have HB := n5_; clear n0_ n1_ n2_ n3_ n4_ n5_; clear hg hw hp_; have hcz102_0 : w101.cell? ⟨gb151, 0, none⟩ = some (.slice (some ⟨go91, 0, none⟩) t145.length co74) := (zC BK151.out 0).trans rfl; have hcz102_1 : w101.cell? ⟨gb151, 1, none⟩ = some (.slice (some ⟨go93, 0, none⟩) t148.length co78) := (zC BK151.out 1).trans rfl; have hfz102_0 := zF BK151.out 0; have hfz102_1 := zF BK151.out 1; have hnb103 := NB140_139.out; have hnc103 := NB139_140.out; have hcz104_0 : w101.cell? ⟨gb140, 0, none⟩ = some (.slice none 0 0) := (zC BK140.out 0).trans rfl; have hcz104_1 : w101.cell? ⟨gb140, 1, none⟩ = some (.slice none 0 0) := (zC BK140.out 1).trans rfl; have hfz104_0 := zF BK140.out 0; have hfz104_1 := zF BK140.out 1))
              refine bodyPost_ret (results_ct rfl _ _ gb140 37 #[.slice (some ⟨go91, 0, none⟩) t145.length co74, .slice (some ⟨go93, 0, none⟩) t148.length co78] (0, 0) _ rfl (by (with_reducible repeat (first | refine zN ?_ _ | refine zD ?_ | refine zA ?_ _)); refine blk_put (cs := #[.slice (some ⟨go91, 0, none⟩) t145.length co74, .slice none 0 0]) ?_ 1 _ rfl; (with_reducible repeat (first | refine zN ?_ _ | refine zD ?_ | refine zA ?_ _)); refine blk_put (cs := #[.slice none 0 0, .slice none 0 0]) ?_ 0 _ rfl; (with_reducible repeat (first | refine zN ?_ _ | refine zD ?_ | refine zA ?_ _)); exact BK140.out) Try.underlying37 rfl (by kernel_rfl)) rfl ?_
              exact ⟨_, _, by first | rfl | (simp [errW_none, errW_some] <;> rfl) | (simp [*, errW_none, errW_some] <;> rfl), by (with_reducible repeat (first | apply qA | apply qN | apply qD)); exact Kd.R_mono (qF (p := ⟨gb140, 1, none⟩) (qF (p := ⟨gb140, 0, none⟩) (Kd.R_types HO_152000.out BK140.out (by decide)) (fun _ hk => hk.2) (.slice (some ⟨go91, 0, none⟩) t145.length co74)) (fun _ hk => hk.2) (.slice (some ⟨go93, 0, none⟩) t148.length co78)) (fun _ hk => hk.1.2), by (with_reducible repeat (first | apply qA | apply qN | apply qD)); exact Kd.R_mono (qF (p := ⟨gb140, 1, none⟩) (qF (p := ⟨gb140, 0, none⟩) (Kd.R_types HO_152001.out BK140.out (by decide)) (fun _ hk => hk.2) (.slice (some ⟨go91, 0, none⟩) t145.length co74)) (fun _ hk => hk.2) (.slice (some ⟨go93, 0, none⟩) t148.length co78)) (fun _ hk => hk.1), by repeat (first | (with_reducible first | exact HB.out | apply yA | apply yN | apply yD | refine yS ?_ GE139.out | refine yS ?_ GE140.out | refine yS ?_ GE151.out) | exact HB.out)⟩
             ·rw [if_neg c92] at H
              exact absurd H (by simp)
            ·rw [if_neg c90] at H
             exact absurd H (by simp)
           ·rw [if_neg c89] at H
            exact absurd H (by simp)
          ·rw [if_neg c88] at H
           have c88b0 : decide (2 < 3) = false := decide_eq_false c88
           clear c88
           simp only [Option.some.injEq, Prod.mk.injEq] at H
           obtain ⟨rfl, rfl, rfl⟩ := H
           have hnb105 := NB151_139.out
           have hnc105 := NB139_151.out
           have hnb106 := NB151_140.out
           have hnc106 := NB140_151.out
           have hcz107_0 : wc.cell? ⟨gb151, 0, none⟩ = some (.slice (some ad152) t145.length co74) := (zC BK151.out 0).trans rfl
           have hcz107_1 : wc.cell? ⟨gb151, 1, none⟩ = some (.slice Ao78 t148.length co78) := (zC BK151.out 1).trans rfl
           have hfz107_0 := zF BK151.out 0
           have hfz107_1 := zF BK151.out 1
           have hnb108 := NB140_139.out
           have hnc108 := NB139_140.out
           have hcz109_0 : wc.cell? ⟨gb140, 0, none⟩ = some (.slice none 0 0) := (zC BK140.out 0).trans rfl
           have hcz109_1 : wc.cell? ⟨gb140, 1, none⟩ = some (.slice none 0 0) := (zC BK140.out 1).trans rfl
           have hfz109_0 := zF BK140.out 0
           have hfz109_1 := zF BK140.out 1
           go_wp2
           all_goals refine bodyPost_ret (results_ct rfl _ _ gb140 37 #[.slice (some ad152) t145.length co74, .slice Ao78 t148.length co78] (0, 0) _ rfl (by (with_reducible repeat (first | refine zN ?_ _ | refine zD ?_ | refine zA ?_ _)); refine blk_put (cs := #[.slice (some ad152) t145.length co74, .slice none 0 0]) ?_ 1 _ rfl; (with_reducible repeat (first | refine zN ?_ _ | refine zD ?_ | refine zA ?_ _)); refine blk_put (cs := #[.slice none 0 0, .slice none 0 0]) ?_ 0 _ rfl; (with_reducible repeat (first | refine zN ?_ _ | refine zD ?_ | refine zA ?_ _)); exact BK140.out) Try.underlying37 rfl (by kernel_rfl)) rfl ?_
           all_goals exact ⟨_, _, by first | rfl | (simp [errW_none, errW_some] <;> rfl) | (simp [*, errW_none, errW_some] <;> rfl), by (with_reducible repeat (first | apply qA | apply qN | apply qD)); exact Kd.R_mono (qF (p := ⟨gb140, 1, none⟩) (qF (p := ⟨gb140, 0, none⟩) (Kd.R_types HO_152000.out BK140.out (by decide)) (fun _ hk => hk.2) (.slice (some ad152) t145.length co74)) (fun _ hk => hk.2) (.slice Ao78 t148.length co78)) (fun _ hk => hk.1), by (with_reducible repeat (first | apply qA | apply qN | apply qD)); exact Kd.R_mono (qF (p := ⟨gb140, 1, none⟩) (qF (p := ⟨gb140, 0, none⟩) (Kd.R_types HO_152001.out BK140.out (by decide)) (fun _ hk => hk.2) (.slice (some ad152) t145.length co74)) (fun _ hk => hk.2) (.slice Ao78 t148.length co78)) (fun _ hk => hk.1), by repeat (first | (with_reducible first | exact HB.out | apply yA | apply yN | apply yD | refine yS ?_ GE139.out | refine yS ?_ GE140.out | refine yS ?_ GE151.out) | exact HB.out)⟩
         ·replace c87 := Bool.eq_false_iff.mpr c87
          subst c87
          have H1 : (if 3 < 3 then (if 0 ≤ a1 then (if a1 < (t145.length : Int) then (if a1 < (t148.length : Int) then (some ((t145.set (a1 : Int).toNat a2), (t148.set (a1 : Int).toNat a3), 3)) else (none)) else (none)) else (none)) else (some (t145, t148, 3))) = some (r1, r2, r3) := by rw [if_neg (show ¬ (false = true) by decide)] at H; exact H
          clear H
          have H := H1
          clear H1
          by_cases c110 : 3 < 3
          ·rw [if_pos c110] at H
           have c110b0 : decide (3 < 3) = true := decide_eq_true c110
           clear c110
           by_cases c111 : 0 ≤ a1
           ·rw [if_pos c111] at H
            have c111b0 : decide (0 ≤ a1) = true := decide_eq_true c111
            clear c111
            by_cases c112 : a1 < (t145.length : Int)
            ·rw [if_pos c112] at H
             have c112b0 : decide (a1 < (t145.length : Int)) = true := decide_eq_true c112
             clear c112
             obtain ⟨y159, hy159⟩ : ∃ y_ : List Int, y_ = (t145.set (a1 : Int).toNat a2) := ⟨_, rfl⟩
             replace H : (if a1 < (t148.length : Int) then (some (y159, (t148.set (a1 : Int).toNat a3), 3)) else (none)) = some (r1, r2, r3) := by first | (rw [hy159]; with_reducible exact H) | (have H2_ := (Option.bind_some _ _).symm.trans H; rw [hy159]; with_reducible exact H2_) | (have H2_ := (Option.bind_some _ _).symm.trans H; with_reducible exact H2_) | with_reducible exact H | (rw [hy159]; exact H) | exact H
             have Ny159 := qM hy159
             clear hy159
             by_cases c114 : a1 < (t148.length : Int)
             ·rw [if_pos c114] at H
              have c114b0 : decide (a1 < (t148.length : Int)) = true := decide_eq_true c114
              clear c114
              obtain ⟨y160, hy160⟩ : ∃ y_ : List Int, y_ = (t148.set (a1 : Int).toNat a3) := ⟨_, rfl⟩
              replace H : (some (y159, y160, 3)) = some (r1, r2, r3) := by first | (rw [hy160]; with_reducible exact H) | (have H2_ := (Option.bind_some _ _).symm.trans H; rw [hy160]; with_reducible exact H2_) | (have H2_ := (Option.bind_some _ _).symm.trans H; with_reducible exact H2_) | with_reducible exact H | (rw [hy160]; exact H) | exact H
              have Ny160 := qM hy160
              clear hy160
              simp only [Option.some.injEq, Prod.mk.injEq] at H
              obtain ⟨rfl, rfl, rfl⟩ := H
              have hnb116 := NB151_139.out
              have hnc116 := NB139_151.out
              have hnb117 := NB151_140.out
              have hnc117 := NB140_151.out
              have hcz118_0 : wc.cell? ⟨gb151, 0, none⟩ = some (.slice (some ad152) t145.length co74) := (zC BK151.out 0).trans rfl
              have hcz118_1 : wc.cell? ⟨gb151, 1, none⟩ = some (.slice Ao78 t148.length co78) := (zC BK151.out 1).trans rfl
              have hfz118_0 := zF BK151.out 0
              have hfz118_1 := zF BK151.out 1
              have p113 : 0 ≤ (a1 : Int) := of_decide_eq_true (by first | (with_reducible assumption) | assumption)
              have q113 : (a1 : Int) < ((t145.length : Int) : Int) := of_decide_eq_true (by first | (with_reducible assumption) | assumption)
              obtain ⟨go113, co113, eo113, gb113, gl113, cl113, HG113⟩ := Kd.R_form HO_152000.out (by omega)
              (first | cases eo113 | (injection eo113 with ea_ en_ ec_; (first | subst ea_ | (injection ea_ with ea_; subst ea_)); subst ec_; clear en_))
              have GB113 := qM gb113
              have GG113 := qM HG113
              clear gb113 gl113 HG113
              obtain ⟨hx113_0, hf113_0⟩ := Kd.R_celln 0 HO_152000.out (a1 : Int) p113 q113
              replace p113 := eq_true p113
              replace q113 := eq_true q113
              have HP119 := Kd.R_putg HO_152000.out (a1 : Int) a2
              go_wp2_with (first | ((with_reducible refine gate_store (t := 3) (p := 66) rfl ?_); refine store_event (t := 3) (p := 66) (v := ?vo_w120) (w1 := (wc.setCell ⟨go113, (a1 : Int).toNat, none⟩ (.int .i64 a2))) ?hg ?ho ?hn ?hr ?_; (case ho => rfl); (case hg => rfl); (case hn => rfl); (case hr => first | (go_simp; done) | (go_simp; rfl)); intro w120 hw; have hg : wc.grownBy w120 (some go113) := (by rw [hw]; exact HP119.2); have hp_ : Kd.R (Kd.int .i64) 3 w120 w.heap.size (fun k_ => some k_ ≠ (.slice Ao78 t148.length co78 : Value).ownBlock) (.slice (some ⟨go113, 0, none⟩) t145.length co74) y159 := (by rw [hw, Ny159.out]; exact HP119.1); clear HP119; have n0_ := qM (hp_); have n1_ := qM (Kd.R_after (v := (.slice (some ⟨go113, 0, none⟩) t145.length co74)) (v1 := (.slice (some ⟨go113, 0, none⟩) t145.length co74)) (ok := (fun _ => True)) (by (with_reducible repeat (first | apply qA | apply qN | apply qD)); exact Kd.R_mono HO_152001.out (fun _ hk => ⟨trivial, hk⟩)) hg (.inl rfl)); have n2_ := qM (blk_grown (g := gb139) (o := .cells #[.slice A0_0 l0_0.length c0_0, .slice A0_1 l0_1.length c0_1] 37 (0, 0)) (by (with_reducible repeat (first | refine zN ?_ _ | refine zD ?_ | refine zA ?_ _)); exact BK139.out) hg (Kd.R_ne HO_152000.out BK139.out (by decide))); have n3_ := qM (blk_grown (g := gb140) (o := .cells #[.slice none 0 0, .slice none 0 0] 37 (0, 0)) (by (with_reducible repeat (first | refine zN ?_ _ | refine zD ?_ | refine zA ?_ _)); exact BK140.out) hg (Kd.R_ne HO_152000.out BK140.out (by decide))); have n4_ := qM (blk_grown (g := gb151) (o := .cells #[.slice (some ⟨go113, 0, none⟩) t145.length co74, .slice Ao78 t148.length co78] 37 (0, 0)) (by (with_reducible repeat (first | refine zN ?_ _ | refine zD ?_ | refine zA ?_ _)); exact BK151.out) hg (Kd.R_ne HO_152000.out BK151.out (by decide))); have n5_ := qM ((by rw [hw]; exact yS (HB.out) GB113.out : Below w.heap.size w w120)); clear HO_152000; clear HO_152001; clear BK139; clear BK140; clear BK151; clear HB; have HO_152000 := n0_; have HO_152001 := n1_; have BK139 := n2_; have BK140 := n3_; have BK151 := n4_; have HB := n5_; clear n0_ n1_ n2_ n3_ n4_ n5_; clear hg hw hp_; have hcz121_0 : w120.cell? ⟨gb151, 0, none⟩ = some (.slice (some ⟨go113, 0, none⟩) t145.length co74) := (zC BK151.out 0).trans rfl; have hcz121_1 : w120.cell? ⟨gb151, 1, none⟩ = some (.slice Ao78 t148.length co78) := (zC BK151.out 1).trans rfl; have hfz121_0 := zF BK151.out 0; have hfz121_1 := zF BK151.out 1; have p115 : 0 ≤ (a1 : Int) := of_decide_eq_true (by first | (with_reducible assumption) | assumption); have q115 : (a1 : Int) < ((t148.length : Int) : Int) := of_decide_eq_true (by first | (with_reducible assumption) | assumption); obtain ⟨go115, co115, eo115, gb115, gl115, cl115, HG115⟩ := Kd.R_form HO_152001.out (by omega); (first | cases eo115 | (injection eo115 with ea_ en_ ec_; (first | subst ea_ | (injection ea_ with ea_; subst ea_)); subst ec_; clear en_)); have GB115 := qM gb115; have GG115 := qM HG115; clear gb115 gl115 HG115; obtain ⟨hx115_0, hf115_0⟩ := Kd.R_celln 0 HO_152001.out (a1 : Int) p115 q115; replace p115 := eq_true p115; replace q115 := eq_true q115; have n_ := qM (Kd.R_mono (ok' := (fun k_ => some k_ ≠ (.slice (some ⟨go113, 0, none⟩) t145.length co74 : Value).ownBlock)) HO_152001.out (fun k_ hk => hk.2)); clear HO_152001; have HO_152001 := n_; clear n_; obtain ⟨hy122_, hz122_⟩ := Kd.R_celln 0 HO_152001.out (a1 : Int) (of_decide_eq_true (by first | (with_reducible assumption) | assumption)) (of_decide_eq_true (by first | (with_reducible assumption) | assumption)); have HP122 := Kd.R_putg HO_152001.out (a1 : Int) a3) | ((with_reducible refine gate_store (t := 3) (p := 71) rfl ?_); refine store_event (t := 3) (p := 71) (v := ?vo_w123) (w1 := (w120.setCell ⟨go115, (a1 : Int).toNat, none⟩ (.int .i64 a3))) ?hg ?ho ?hn ?hr ?_; (case ho => rfl); (case hg => rfl); (case hn => rfl); (case hr => first | (go_simp; done) | (go_simp; rfl)); intro w123 hw; have hg : w120.grownBy w123 (some go115) := (by rw [hw]; exact HP122.2); have hp_ : Kd.R (Kd.int .i64) 3 w123 w.heap.size (fun k_ => some k_ ≠ (.slice (some ⟨go113, 0, none⟩) t145.length co74 : Value).ownBlock) (.slice (some ⟨go115, 0, none⟩) t148.length co78) y160 := (by rw [hw, Ny160.out]; exact HP122.1); clear HP122; have n0_ := qM (Kd.R_after (v := (.slice (some ⟨go115, 0, none⟩) t148.length co78)) (v1 := (.slice (some ⟨go115, 0, none⟩) t148.length co78)) (ok := (fun _ => True)) (by (with_reducible repeat (first | apply qA | apply qN | apply qD)); exact Kd.R_mono HO_152000.out (fun _ hk => ⟨trivial, hk⟩)) hg (.inl rfl)); have n1_ := qM (hp_); have n2_ := qM (blk_grown (g := gb139) (o := .cells #[.slice A0_0 l0_0.length c0_0, .slice A0_1 l0_1.length c0_1] 37 (0, 0)) (by (with_reducible repeat (first | refine zN ?_ _ | refine zD ?_ | refine zA ?_ _)); exact BK139.out) hg (Kd.R_ne HO_152001.out BK139.out (by decide))); have n3_ := qM (blk_grown (g := gb140) (o := .cells #[.slice none 0 0, .slice none 0 0] 37 (0, 0)) (by (with_reducible repeat (first | refine zN ?_ _ | refine zD ?_ | refine zA ?_ _)); exact BK140.out) hg (Kd.R_ne HO_152001.out BK140.out (by decide))); have n4_ := qM (blk_grown (g := gb151) (o := .cells #[.slice (some ⟨go113, 0, none⟩) t145.length co74, .slice (some ⟨go115, 0, none⟩) t148.length co78] 37 (0, 0)) (by (with_reducible repeat (first | refine zN ?_ _ | refine zD ?_ | refine zA ?_ _)); exact BK151.out) hg (Kd.R_ne HO_152001.out BK151.out (by decide))); have n5_ := qM ((by rw [hw]; exact yS (HB.out) GB115.out : Below w.heap.size w w123)); clear HO_152000; clear HO_152001; clear BK139; clear BK140; clear BK151; clear HB; have HO_152000 := n0_; have HO_152001 := n1_; have BK139 := n2_; have BK140 := n3_; have BK151 := n4_; have HB := n5_; clear n0_ n1_ n2_ n3_ n4_ n5_; clear hg hw hp_; have hcz124_0 : w123.cell? ⟨gb151, 0, none⟩ = some (.slice (some ⟨go113, 0, none⟩) t145.length co74) := (zC BK151.out 0).trans rfl; have hcz124_1 : w123.cell? ⟨gb151, 1, none⟩ = some (.slice (some ⟨go115, 0, none⟩) t148.length co78) := (zC BK151.out 1).trans rfl; have hfz124_0 := zF BK151.out 0; have hfz124_1 := zF BK151.out 1; have hnb125 := NB140_139.out; have hnc125 := NB139_140.out; have hcz126_0 : w123.cell? ⟨gb140, 0, none⟩ = some (.slice none 0 0) := (zC BK140.out 0).trans rfl; have hcz126_1 : w123.cell? ⟨gb140, 1, none⟩ = some (.slice none 0 0) := (zC BK140.out 1).trans rfl; have hfz126_0 := zF BK140.out 0; have hfz126_1 := zF BK140.out 1))
              all_goals refine bodyPost_ret (results_ct rfl _ _ gb140 37 #[.slice (some ⟨go113, 0, none⟩) t145.length co74, .slice (some ⟨go115, 0, none⟩) t148.length co78] (0, 0) _ rfl (by (with_reducible repeat (first | refine zN ?_ _ | refine zD ?_ | refine zA ?_ _)); refine blk_put (cs := #[.slice (some ⟨go113, 0, none⟩) t145.length co74, .slice none 0 0]) ?_ 1 _ rfl; (with_reducible repeat (first | refine zN ?_ _ | refine zD ?_ | refine zA ?_ _)); refine blk_put (cs := #[.slice none 0 0, .slice none 0 0]) ?_ 0 _ rfl; (with_reducible repeat (first | refine zN ?_ _ | refine zD ?_ | refine zA ?_ _)); exact BK140.out) Try.underlying37 rfl (by kernel_rfl)) rfl ?_
              all_goals exact ⟨_, _, by first | rfl | (simp [errW_none, errW_some] <;> rfl) | (simp [*, errW_none, errW_some] <;> rfl), by (with_reducible repeat (first | apply qA | apply qN | apply qD)); exact Kd.R_mono (qF (p := ⟨gb140, 1, none⟩) (qF (p := ⟨gb140, 0, none⟩) (Kd.R_types HO_152000.out BK140.out (by decide)) (fun _ hk => hk.2) (.slice (some ⟨go113, 0, none⟩) t145.length co74)) (fun _ hk => hk.2) (.slice (some ⟨go115, 0, none⟩) t148.length co78)) (fun _ hk => hk.1.2), by (with_reducible repeat (first | apply qA | apply qN | apply qD)); exact Kd.R_mono (qF (p := ⟨gb140, 1, none⟩) (qF (p := ⟨gb140, 0, none⟩) (Kd.R_types HO_152001.out BK140.out (by decide)) (fun _ hk => hk.2) (.slice (some ⟨go113, 0, none⟩) t145.length co74)) (fun _ hk => hk.2) (.slice (some ⟨go115, 0, none⟩) t148.length co78)) (fun _ hk => hk.1), by repeat (first | (with_reducible first | exact HB.out | apply yA | apply yN | apply yD | refine yS ?_ GE139.out | refine yS ?_ GE140.out | refine yS ?_ GE151.out) | exact HB.out)⟩
             ·rw [if_neg c114] at H
              exact absurd H (by simp)
            ·rw [if_neg c112] at H
             exact absurd H (by simp)
           ·rw [if_neg c111] at H
            exact absurd H (by simp)
          ·rw [if_neg c110] at H
           have c110b0 : decide (3 < 3) = false := decide_eq_false c110
           clear c110
           simp only [Option.some.injEq, Prod.mk.injEq] at H
           obtain ⟨rfl, rfl, rfl⟩ := H
           have hnb127 := NB151_139.out
           have hnc127 := NB139_151.out
           have hnb128 := NB151_140.out
           have hnc128 := NB140_151.out
           have hcz129_0 : wc.cell? ⟨gb151, 0, none⟩ = some (.slice (some ad152) t145.length co74) := (zC BK151.out 0).trans rfl
           have hcz129_1 : wc.cell? ⟨gb151, 1, none⟩ = some (.slice Ao78 t148.length co78) := (zC BK151.out 1).trans rfl
           have hfz129_0 := zF BK151.out 0
           have hfz129_1 := zF BK151.out 1
           have hnb130 := NB140_139.out
           have hnc130 := NB139_140.out
           have hcz131_0 : wc.cell? ⟨gb140, 0, none⟩ = some (.slice none 0 0) := (zC BK140.out 0).trans rfl
           have hcz131_1 : wc.cell? ⟨gb140, 1, none⟩ = some (.slice none 0 0) := (zC BK140.out 1).trans rfl
           have hfz131_0 := zF BK140.out 0
           have hfz131_1 := zF BK140.out 1
           go_wp2
           refine bodyPost_ret (results_ct rfl _ _ gb140 37 #[.slice (some ad152) t145.length co74, .slice Ao78 t148.length co78] (0, 0) _ rfl (by (with_reducible repeat (first | refine zN ?_ _ | refine zD ?_ | refine zA ?_ _)); refine blk_put (cs := #[.slice (some ad152) t145.length co74, .slice none 0 0]) ?_ 1 _ rfl; (with_reducible repeat (first | refine zN ?_ _ | refine zD ?_ | refine zA ?_ _)); refine blk_put (cs := #[.slice none 0 0, .slice none 0 0]) ?_ 0 _ rfl; (with_reducible repeat (first | refine zN ?_ _ | refine zD ?_ | refine zA ?_ _)); exact BK140.out) Try.underlying37 rfl (by kernel_rfl)) rfl ?_
           exact ⟨_, _, by first | rfl | (simp [errW_none, errW_some] <;> rfl) | (simp [*, errW_none, errW_some] <;> rfl), by (with_reducible repeat (first | apply qA | apply qN | apply qD)); exact Kd.R_mono (qF (p := ⟨gb140, 1, none⟩) (qF (p := ⟨gb140, 0, none⟩) (Kd.R_types HO_152000.out BK140.out (by decide)) (fun _ hk => hk.2) (.slice (some ad152) t145.length co74)) (fun _ hk => hk.2) (.slice Ao78 t148.length co78)) (fun _ hk => hk.1), by (with_reducible repeat (first | apply qA | apply qN | apply qD)); exact Kd.R_mono (qF (p := ⟨gb140, 1, none⟩) (qF (p := ⟨gb140, 0, none⟩) (Kd.R_types HO_152001.out BK140.out (by decide)) (fun _ hk => hk.2) (.slice (some ad152) t145.length co74)) (fun _ hk => hk.2) (.slice Ao78 t148.length co78)) (fun _ hk => hk.1), by repeat (first | (with_reducible first | exact HB.out | apply yA | apply yN | apply yD | refine yS ?_ GE139.out | refine yS ?_ GE140.out | refine yS ?_ GE151.out) | exact HB.out)⟩
     ·rw [if_neg c35] at H
      exact absurd H (by simp)
    ·rw [if_neg c34] at H
     exact absurd H (by simp)

open Go.Proofs.YtaohaebgpbagmaaAl
end Go.Proofs.Ytaohaebgpbagmaa.PFnHrdRises
