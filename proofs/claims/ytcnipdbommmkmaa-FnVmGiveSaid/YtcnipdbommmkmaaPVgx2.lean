/- Functions that a law reaches, each with the walk that shows what its call answers; laid by a program of this session. -/
import Derived.Test.YtcnipdbommmkmaaPVgx0
import Derived.Test.YtcnipdbommmkmaaPVgx1
namespace Go.Proofs.Ytcnipdbommmkmaa.PVg
open Go.RowKit Go.Proofs.YtcnipdbommmkmaaW.PrintWords Go.Proofs.YtcnipdbommmkmaaW.PrintLast Go.Proofs.YtcnipdbommmkmaaW.PrintMore
attribute [local go_sem] max2_int min2_int max_two min_two max_three min_three max_four min_four   -- for this text's walks alone
set_option linter.unusedVariables false
set_option linter.unusedSimpArgs false

open Go.Proofs.YtcnipdbommmkmaaAl Go.Proofs.YtcnipdbommmkmaaSq
/-! ### spec_VmGive: function 13 -/
mutual
def spec_VmGive.j0 : Nat → List Int → Bool → Bool → Int → List Int → List Int → Int → Int → Int → List Int → Int → Int → Int → Option (Int × List Int × List Int × Int)
 | 0, _, _, _, _, _, _, _, _, _, _, _, _, _ => none
 | k + 1, x2, x3, x23, x136000, x136001, x136002, x136003, x137000, x137001, x137002, x137003, x137004, x137005 => if x23 = true then (some (0, ([] : List Int), ([] : List Int), 0)) else ((spec_l6Copy.f x136000 x136001 x136002 x136003).bind fun bt141 => (if bt141.2.2.2 = 0 then (if x137000 = 1 then (if x3 = true then (if 0 ≤ x137004 then (if x137004 < (bt141.2.1.length : Int) then (some (bt141.1, (bt141.2.1.set (x137004 : Int).toNat 1), bt141.2.2.1, bt141.2.2.2)) else (none)) else (none)) else (if 0 ≤ x137004 then (if x137004 < (bt141.2.1.length : Int) then (some (bt141.1, (bt141.2.1.set (x137004 : Int).toNat 0), bt141.2.2.1, bt141.2.2.2)) else (none)) else (none))) else (if x137000 = 2 then (if x3 = true then (spec_VmGive.j1 k x2 x3 0 (decide ((wrap64 (x137003 + (x2.length : Int))) > 8)) x137000 x137001 x137002 x137003 x137004 x137005 bt141.1 bt141.2.1 bt141.2.2.1 bt141.2.2.2) else (spec_VmGive.j1 k x2 x3 0 false x137000 x137001 x137002 x137003 x137004 x137005 bt141.1 bt141.2.1 bt141.2.2.1 bt141.2.2.2)) else (if x137000 = 3 then (if x3 = true then (if (x2.length : Int) > 0 then (if 0 < (x2.length : Int) then (if 0 ≤ x137004 then (if x137004 < (bt141.2.1.length : Int) then (if 0 ≤ x137005 then (if x137005 < (bt141.2.1.length : Int) then (some (bt141.1, ((bt141.2.1.set (x137004 : Int).toNat (wrap64 (rd x2 0))).set (x137005 : Int).toNat 1), bt141.2.2.1, bt141.2.2.2)) else (none)) else (none)) else (none)) else (none)) else (none)) else (if 0 ≤ x137004 then (if x137004 < (bt141.2.1.length : Int) then (if 0 ≤ x137005 then (if x137005 < (bt141.2.1.length : Int) then (some (bt141.1, ((bt141.2.1.set (x137004 : Int).toNat 0).set (x137005 : Int).toNat 0), bt141.2.2.1, bt141.2.2.2)) else (none)) else (none)) else (none)) else (none))) else (if 0 ≤ x137004 then (if x137004 < (bt141.2.1.length : Int) then (if 0 ≤ x137005 then (if x137005 < (bt141.2.1.length : Int) then (some (bt141.1, ((bt141.2.1.set (x137004 : Int).toNat 0).set (x137005 : Int).toNat 0), bt141.2.2.1, bt141.2.2.2)) else (none)) else (none)) else (none)) else (none))) else (some (bt141.1, bt141.2.1, bt141.2.2.1, bt141.2.2.2))))) else (some (bt141.1, bt141.2.1, bt141.2.2.1, bt141.2.2.2))))
def spec_VmGive.j1 : Nat → List Int → Bool → Int → Bool → Int → Int → List Int → Int → Int → Int → Int → List Int → List Int → Int → Option (Int × List Int × List Int × Int)
 | 0, _, _, _, _, _, _, _, _, _, _, _, _, _, _ => none
 | k + 1, x2, x3, x10, x52, x137000, x137001, x137002, x137003, x137004, x137005, x150000, x150001, x150002, x150003 => if x52 = true then ((spec_l6Fall.f x150000 x150001 x150002 x150003).bind fun bt152 => (some (bt152.1, bt152.2.1, bt152.2.2.1, bt152.2.2.2))) else (if x3 = true then ((spec_l6Lay.f k x150000 x150001 x150002 x150003 x137003 x2).bind fun bt160 => (if 0 ≤ x137004 then (if x137004 < (bt160.2.1.length : Int) then (some (bt160.1, (bt160.2.1.set (x137004 : Int).toNat (wrap64 ((x2.length : Int) + 1))), bt160.2.2.1, bt160.2.2.2)) else (none)) else (none))) else (if 0 ≤ x137004 then (if x137004 < (x150001.length : Int) then (some (x150000, (x150001.set (x137004 : Int).toNat x10), x150002, x150003)) else (none)) else (none)))
end
def spec_VmGive.f (k : Nat) (a0_0 : Int) (l0_1 : List Int) (l0_2 : List Int) (a0_3 : Int) (a1_0 : Int) (a1_1 : Int) (l1_2 : List Int) (a1_3 : Int) (a1_4 : Int) (a1_5 : Int) (l2 : List Int) (a3 : Bool) : Option (Int × List Int × List Int × Int) := (spec_VmOk.f k a0_0 l0_1 l0_2 a0_3).bind fun t138 => (if t138 = true then ((spec_l6AskOk.f a1_0 a1_1 l1_2 a1_3 a1_4 a1_5).bind fun t139 => (if t139 = true then ((spec_BytMessage.f l2).bind fun t140 => (spec_VmGive.j0 k l2 a3 (!t140) a0_0 l0_1 l0_2 a0_3 a1_0 a1_1 l1_2 a1_3 a1_4 a1_5)) else (spec_VmGive.j0 k l2 a3 true a0_0 l0_1 l0_2 a0_3 a1_0 a1_1 l1_2 a1_3 a1_4 a1_5))) else (spec_VmGive.j0 k l2 a3 true a0_0 l0_1 l0_2 a0_3 a1_0 a1_1 l1_2 a1_3 a1_4 a1_5))
theorem spec_VmGive.mono_l : ∀ k, (∀ y0 y1 y2 y3 y4 y5 y6 y7 y8 y9 y10 y11 y12, LeO (spec_VmGive.j0 k y0 y1 y2 y3 y4 y5 y6 y7 y8 y9 y10 y11 y12) (spec_VmGive.j0 (k + 1) y0 y1 y2 y3 y4 y5 y6 y7 y8 y9 y10 y11 y12)) ∧ (∀ y0 y1 y2 y3 y4 y5 y6 y7 y8 y9 y10 y11 y12 y13, LeO (spec_VmGive.j1 k y0 y1 y2 y3 y4 y5 y6 y7 y8 y9 y10 y11 y12 y13) (spec_VmGive.j1 (k + 1) y0 y1 y2 y3 y4 y5 y6 y7 y8 y9 y10 y11 y12 y13))
 | 0 => ⟨fun _ _ _ _ _ _ _ _ _ _ _ _ _ r h => by simp [spec_VmGive.j0] at h, fun _ _ _ _ _ _ _ _ _ _ _ _ _ _ r h => by simp [spec_VmGive.j1] at h⟩
 | k + 1 => by
  obtain ⟨ih0, ih1⟩ := spec_VmGive.mono_l k
  refine ⟨?_, ?_⟩
  ·intro y0 y1 y2 y3 y4 y5 y6 y7 y8 y9 y10 y11 y12
   unfold spec_VmGive.j0
   repeat' first
   | (with_reducible exact ih0 _ _ _ _ _ _ _ _ _ _ _ _ _)
   | (with_reducible exact ih1 _ _ _ _ _ _ _ _ _ _ _ _ _ _)
   | (with_reducible exact spec_VmOk.mono _ _ _ _ _)
   | (with_reducible exact spec_l6Lay.mono _ _ _ _ _ _ _)
   | (with_reducible exact LeO.refl _)
   | (with_reducible exact LeO.none _)
   | (with_reducible refine LeO.ite ?_ ?_)
   | (with_reducible refine LeO.bind ?_ (fun _ => ?_))
   | exact ih0 _ _ _ _ _ _ _ _ _ _ _ _ _
   | exact ih1 _ _ _ _ _ _ _ _ _ _ _ _ _ _
   | exact spec_VmOk.mono _ _ _ _ _
   | exact spec_l6Lay.mono _ _ _ _ _ _ _
   | exact LeO.none _
   | refine LeO.ite ?_ ?_
   | refine LeO.bind ?_ (fun _ => ?_)
  ·intro y0 y1 y2 y3 y4 y5 y6 y7 y8 y9 y10 y11 y12 y13
   unfold spec_VmGive.j1
   repeat' first
   | (with_reducible exact ih0 _ _ _ _ _ _ _ _ _ _ _ _ _)
   | (with_reducible exact ih1 _ _ _ _ _ _ _ _ _ _ _ _ _ _)
   | (with_reducible exact spec_VmOk.mono _ _ _ _ _)
   | (with_reducible exact spec_l6Lay.mono _ _ _ _ _ _ _)
   | (with_reducible exact LeO.refl _)
   | (with_reducible exact LeO.none _)
   | (with_reducible refine LeO.ite ?_ ?_)
   | (with_reducible refine LeO.bind ?_ (fun _ => ?_))
   | exact ih0 _ _ _ _ _ _ _ _ _ _ _ _ _
   | exact ih1 _ _ _ _ _ _ _ _ _ _ _ _ _ _
   | exact spec_VmOk.mono _ _ _ _ _
   | exact spec_l6Lay.mono _ _ _ _ _ _ _
   | exact LeO.none _
   | refine LeO.ite ?_ ?_
   | refine LeO.bind ?_ (fun _ => ?_)
theorem spec_VmGive.mono : ∀ a0 a1 a2 a3 a4 a5 a6 a7 a8 a9 a10 a11 k, LeO (spec_VmGive.f k a0 a1 a2 a3 a4 a5 a6 a7 a8 a9 a10 a11) (spec_VmGive.f (k + 1) a0 a1 a2 a3 a4 a5 a6 a7 a8 a9 a10 a11) := by
 intro a0 a1 a2 a3 a4 a5 a6 a7 a8 a9 a10 a11 k
 obtain ⟨ih0, ih1⟩ := spec_VmGive.mono_l k
 unfold spec_VmGive.f
 repeat' first
   | (with_reducible exact ih0 _ _ _ _ _ _ _ _ _ _ _ _ _)
   | (with_reducible exact ih1 _ _ _ _ _ _ _ _ _ _ _ _ _ _)
   | (with_reducible exact spec_VmOk.mono _ _ _ _ _)
   | (with_reducible exact spec_l6Lay.mono _ _ _ _ _ _ _)
   | (with_reducible exact LeO.refl _)
   | (with_reducible exact LeO.none _)
   | (with_reducible refine LeO.ite ?_ ?_)
   | (with_reducible refine LeO.bind ?_ (fun _ => ?_))
   | exact ih0 _ _ _ _ _ _ _ _ _ _ _ _ _
   | exact ih1 _ _ _ _ _ _ _ _ _ _ _ _ _ _
   | exact spec_VmOk.mono _ _ _ _ _
   | exact spec_l6Lay.mono _ _ _ _ _ _ _
   | exact LeO.none _
   | refine LeO.ite ?_ ?_
   | refine LeO.bind ?_ (fun _ => ?_)
def spec_VmGive.T22 : Bool × List (List Nat × List Nat) := (true, [([], []), ([0], [0]), ([], []), ([2], [2]), ([], []), ([4], [4]), ([5], [5]), ([6], [6]), ([1, 3, 0, 1, 2, 3, 4, 5, 6, 7], [1, 3]), ([8, 7, 0, 1, 2, 3, 4, 5, 6, 7], [7, 8])])
def spec_VmGive.B22 : List Nat := [0, 1, 0, 4, 0, 16, 48, 112, 255, 511]
theorem spec_VmGive.tab22 : rtab .any (opsOf Try.f13 22) = spec_VmGive.T22 := by kernel_rfl
theorem spec_VmGive.bits22 : waitsOk spec_VmGive.T22.2 spec_VmGive.B22 = true := by kernel_rfl
set_option maxHeartbeats 8000000 in
set_option maxRecDepth 100000 in
theorem spec_VmGive.calls (k : Nat) (a0_0 : Int) (A0_1 : Option Addr) (c0_1 : Nat) (l0_1 : List Int) (A0_2 : Option Addr) (c0_2 : Nat) (l0_2 : List Int) (a0_3 : Int) (a1_0 : Int) (a1_1 : Int) (A1_2 : Option Addr) (c1_2 : Nat) (l1_2 : List Int) (a1_3 : Int) (a1_4 : Int) (a1_5 : Int) (A2 : Option Addr) (c2 : Nat) (l2 : List Int) (a3 : Bool) (r1 : Int) (r2 : List Int) (r3 : List Int) (r4 : Int) (w : World) (hr0_1 : Kd.C (Kd.int .i64) w A0_1 l0_1.length l0_1) (hc0_1 : l0_1.length ≤ c0_1) (hr0_2 : Kd.C (Kd.int .i64) w A0_2 l0_2.length l0_2) (hc0_2 : l0_2.length ≤ c0_2) (hr1_2 : Kd.C (Kd.int .u8) w A1_2 l1_2.length l1_2) (hc1_2 : l1_2.length ≤ c1_2) (hr2 : Kd.C (Kd.int .u8) w A2 l2.length l2) (hc2 : l2.length ≤ c2) (h : spec_VmGive.f k a0_0 l0_1 l0_2 a0_3 a1_0 a1_1 l1_2 a1_3 a1_4 a1_5 l2 a3 = some (r1, r2, r3, r4)) :
  Calls Try.prog 13 #[.agg #[.int .i64 a0_0, .slice A0_1 l0_1.length c0_1, .slice A0_2 l0_2.length c0_2, .int .i64 a0_3], .agg #[.int .i64 a1_0, .int .i64 a1_1, .slice A1_2 l1_2.length c1_2, .int .i64 a1_3, .int .i64 a1_4, .int .i64 a1_5], .slice A2 l2.length c2, .bool a3] w fun e w' => ∃ v1_ v2_ : Value, e = .returned (.agg #[.int .i64 r1, v1_, v2_, .int .i64 r4]) ∧ Kd.R (Kd.int .i64) 3 w' w.heap.size (fun k_ => some k_ ≠ (v2_ : Value).ownBlock) v1_ r2 ∧ Kd.R (Kd.int .i64) 3 w' w.heap.size (fun k_ => some k_ ≠ (v1_ : Value).ownBlock) v2_ r3 ∧ Below w.heap.size w w' := by
 have hu30 := Try.underlying30
 have hu33 := Try.underlying33
 have HR0_1 := qM hr0_1
 have HC0_1 := qM hc0_1
 clear hr0_1 hc0_1
 have HR0_2 := qM hr0_2
 have HC0_2 := qM hc0_2
 clear hr0_2 hc0_2
 have HR1_2 := qM hr1_2
 have HC1_2 := qM hc1_2
 clear hr1_2 hc1_2
 have HR2 := qM hr2
 have HC2 := qM hc2
 clear hr2 hc2
 have HB := qM (Below.refl w.heap.size w)
 have H : ((spec_VmOk.f k a0_0 l0_1 l0_2 a0_3).bind fun t138 => (if t138 = true then ((spec_l6AskOk.f a1_0 a1_1 l1_2 a1_3 a1_4 a1_5).bind fun t139 => (if t139 = true then ((spec_BytMessage.f l2).bind fun t140 => (spec_VmGive.j0 k l2 a3 (!t140) a0_0 l0_1 l0_2 a0_3 a1_0 a1_1 l1_2 a1_3 a1_4 a1_5)) else (spec_VmGive.j0 k l2 a3 true a0_0 l0_1 l0_2 a0_3 a1_0 a1_1 l1_2 a1_3 a1_4 a1_5))) else (spec_VmGive.j0 k l2 a3 true a0_0 l0_1 l0_2 a0_3 a1_0 a1_1 l1_2 a1_3 a1_4 a1_5))) = some (r1, r2, r3, r4) := h
 clear h
 have HC5 := qM H
 clear H
 go_enter Try.func13, Try.ntmps13
 go_upto_region 1 with (first | ((with_reducible refine gate_dst (N := 4) rfl ?_); (try (refine gate_guard (by rfl) ?_; dsimp only)); refine box_event ?hg (N := 4) ?hd (cs := #[.int .i64 a0_0, .slice A0_1 l0_1.length c0_1, .slice A0_2 l0_2.length c0_2, .int .i64 a0_3]) (t := 30) ?hr ?_; (case hd => rfl); (case hg => rfl); (case hr => first | (go_simp; done) | (go_simp; rfl)); intro gb135 hg w6 hbox hb; have n0_ := qM (below_step (yb HB) hb); have n1_ := qM (hbox); have n2_ := qM ((by rw [hg]; exact (below_size (yb HB)) : w.heap.size ≤ gb135)); have n3_ := qM ((by rw [hg]; exact (below_size (yb HB)) : w.heap.size ≤ gb135)); clear HB; revert n0_ n1_ n2_ n3_; intro HB BK135 GW135 GE135; clear hb hbox hg) | ((with_reducible refine gate_dst (N := 5) rfl ?_); (try (refine gate_guard (by rfl) ?_; dsimp only)); refine box_event ?hg (N := 5) ?hd (cs := #[.int .i64 a1_0, .int .i64 a1_1, .slice A1_2 l1_2.length c1_2, .int .i64 a1_3, .int .i64 a1_4, .int .i64 a1_5]) (t := 33) ?hr ?_; (case hd => rfl); (case hg => rfl); (case hr => first | (go_simp; done) | (go_simp; rfl)); intro gb136 hg w7 hbox hb; have n0_ := qM (blk_below (bz BK135) hb); have n1_ := qM (below_step (yb HB) hb); have n2_ := qM (hbox); have n3_ := qM ((by rw [hg]; exact (below_size (yb HB)) : w.heap.size ≤ gb136)); have n4_ := qM ((by rw [hg]; exact (below_size (yb HB)) : w.heap.size ≤ gb136)); have n5_ := qM ((by rw [hg]; exact Nat.ne_of_lt (blk_lt (bz BK135)) : gb135 ≠ gb136)); have n6_ := qM ((by rw [hg]; exact Nat.ne_of_gt (blk_lt (bz BK135)) : gb136 ≠ gb135)); clear BK135 HB; revert n0_ n1_ n2_ n3_ n4_ n5_ n6_; intro BK135 HB BK136 GW136 GE136 NB135_136 NB136_135; clear hb hbox hg) | ((with_reducible refine gate_dst (N := 8) rfl ?_); (try (refine gate_guard (by rfl) ?_; dsimp only)); refine box_event ?hg (N := 8) ?hd (cs := #[.int .i64 0, .slice none 0 0, .slice none 0 0, .int .i64 0]) (t := 30) ?hr ?_; (case hd => rfl); (case hg => rfl); (case hr => first | (go_simp; done) | (go_simp; rfl)); intro gb137 hg w8 hbox hb; have n0_ := qM (blk_below (bz BK135) hb); have n1_ := qM (blk_below (bz BK136) hb); have n2_ := qM (below_step (yb HB) hb); have n3_ := qM (hbox); have n4_ := qM ((by rw [hg]; exact (below_size (yb HB)) : w.heap.size ≤ gb137)); have n5_ := qM ((by rw [hg]; exact (below_size (yb HB)) : w.heap.size ≤ gb137)); have n6_ := qM ((by rw [hg]; exact Nat.ne_of_lt (blk_lt (bz BK135)) : gb135 ≠ gb137)); have n7_ := qM ((by rw [hg]; exact Nat.ne_of_gt (blk_lt (bz BK135)) : gb137 ≠ gb135)); have n8_ := qM ((by rw [hg]; exact Nat.ne_of_lt (blk_lt (bz BK136)) : gb136 ≠ gb137)); have n9_ := qM ((by rw [hg]; exact Nat.ne_of_gt (blk_lt (bz BK136)) : gb137 ≠ gb136)); clear BK135 BK136 HB; revert n0_ n1_ n2_ n3_ n4_ n5_ n6_ n7_ n8_ n9_; intro BK135 BK136 HB BK137 GW137 GE137 NB135_137 NB137_135 NB136_137 NB137_136; clear hb hbox hg))
 (try simp only [Act.put, List.setIfInBounds_toArray, List.set_cons_zero, List.set_cons_succ])
 go_cut [23] (fun v23 wc => ∃ (kq : Nat) (x23_4 : Bool), v23 = .bool x23_4 ∧ Aside0 (spec_VmGive.j0 kq l2 a3 x23_4 a0_0 l0_1 l0_2 a0_3 a1_0 a1_1 l1_2 a1_3 a1_4 a1_5 = some (r1, r2, r3, r4)) ∧ Aside0 (kq ≤ k) ∧ Aside0 (wc.heap[gb135]? = some (.cells #[.int .i64 a0_0, (.slice A0_1 l0_1.length c0_1), (.slice A0_2 l0_2.length c0_2), .int .i64 a0_3] 30 (0, 0))) ∧ Aside0 (wc.heap[gb136]? = some (.cells #[.int .i64 a1_0, .int .i64 a1_1, (.slice A1_2 l1_2.length c1_2), .int .i64 a1_3, .int .i64 a1_4, .int .i64 a1_5] 33 (0, 0))) ∧ Aside0 (wc.heap[gb137]? = some (.cells #[.int .i64 0, (.slice none 0 0), (.slice none 0 0), .int .i64 0] 30 (0, 0))) ∧ Aside0 (Below w.heap.size w wc))
 case first =>
  have H := HC5.out
  clear HC5
  replace H := Option.bind_eq_some_iff.mp H
  obtain ⟨t138, A90, H⟩ := H
  replace H : (if t138 = true then ((spec_l6AskOk.f a1_0 a1_1 l1_2 a1_3 a1_4 a1_5).bind fun t139 => (if t139 = true then ((spec_BytMessage.f l2).bind fun t140 => (spec_VmGive.j0 k l2 a3 (!t140) a0_0 l0_1 l0_2 a0_3 a1_0 a1_1 l1_2 a1_3 a1_4 a1_5)) else (spec_VmGive.j0 k l2 a3 true a0_0 l0_1 l0_2 a0_3 a1_0 a1_1 l1_2 a1_3 a1_4 a1_5))) else (spec_VmGive.j0 k l2 a3 true a0_0 l0_1 l0_2 a0_3 a1_0 a1_1 l1_2 a1_3 a1_4 a1_5)) = some (r1, r2, r3, r4) := H
  have A9 := qM A90
  clear A90
  by_cases c10 : t138 = true
  ·subst c10
   have H1 : ((spec_l6AskOk.f a1_0 a1_1 l1_2 a1_3 a1_4 a1_5).bind fun t139 => (if t139 = true then ((spec_BytMessage.f l2).bind fun t140 => (spec_VmGive.j0 k l2 a3 (!t140) a0_0 l0_1 l0_2 a0_3 a1_0 a1_1 l1_2 a1_3 a1_4 a1_5)) else (spec_VmGive.j0 k l2 a3 true a0_0 l0_1 l0_2 a0_3 a1_0 a1_1 l1_2 a1_3 a1_4 a1_5))) = some (r1, r2, r3, r4) := by rw [if_pos rfl] at H; exact H
   clear H
   have H := H1
   clear H1
   replace H := Option.bind_eq_some_iff.mp H
   obtain ⟨t139, A110, H⟩ := H
   replace H : (if t139 = true then ((spec_BytMessage.f l2).bind fun t140 => (spec_VmGive.j0 k l2 a3 (!t140) a0_0 l0_1 l0_2 a0_3 a1_0 a1_1 l1_2 a1_3 a1_4 a1_5)) else (spec_VmGive.j0 k l2 a3 true a0_0 l0_1 l0_2 a0_3 a1_0 a1_1 l1_2 a1_3 a1_4 a1_5)) = some (r1, r2, r3, r4) := H
   have A11 := qM A110
   clear A110
   by_cases c12 : t139 = true
   ·subst c12
    have H1 : ((spec_BytMessage.f l2).bind fun t140 => (spec_VmGive.j0 k l2 a3 (!t140) a0_0 l0_1 l0_2 a0_3 a1_0 a1_1 l1_2 a1_3 a1_4 a1_5)) = some (r1, r2, r3, r4) := by rw [if_pos rfl] at H; exact H
    clear H
    have H := H1
    clear H1
    replace H := Option.bind_eq_some_iff.mp H
    obtain ⟨t140, A130, H⟩ := H
    replace H : (spec_VmGive.j0 k l2 a3 (!t140) a0_0 l0_1 l0_2 a0_3 a1_0 a1_1 l1_2 a1_3 a1_4 a1_5) = some (r1, r2, r3, r4) := H
    have A13 := qM A130
    clear A130
    have H' := qM H
    clear H
    have hnb14 := NB135_136.out
    have hnc14 := NB136_135.out
    have hnb15 := NB135_137.out
    have hnc15 := NB137_135.out
    have hcz16_0 : w8.cell? ⟨gb135, 0, none⟩ = some (.int .i64 a0_0) := (zC BK135.out 0).trans rfl
    have hcz16_1 : w8.cell? ⟨gb135, 1, none⟩ = some (.slice A0_1 l0_1.length c0_1) := (zC BK135.out 1).trans rfl
    have hcz16_2 : w8.cell? ⟨gb135, 2, none⟩ = some (.slice A0_2 l0_2.length c0_2) := (zC BK135.out 2).trans rfl
    have hcz16_3 : w8.cell? ⟨gb135, 3, none⟩ = some (.int .i64 a0_3) := (zC BK135.out 3).trans rfl
    have hfz16_0 := zF BK135.out 0
    have hfz16_1 := zF BK135.out 1
    have hfz16_2 := zF BK135.out 2
    have hfz16_3 := zF BK135.out 3
    go_wp2_with (first | ((with_reducible refine gate_callee (f := 27) rfl ?_); refine goesL_ (some 12) rfl rfl Try.func27 (by kernel_rfl) rfl #[.agg #[.int .i64 a0_0, .slice A0_1 l0_1.length c0_1, .slice A0_2 l0_2.length c0_2, .int .i64 a0_3]] rfl (by (try simp only [List.map_toArray, List.map_cons, List.map_nil]); first | done | rfl | (simp only [List.length_drop, List.length_take]; rfl)) ?_; (with_reducible refine (spec_VmOk.calls k a0_0 _ _ l0_1 _ _ l0_2 a0_3 true _ ?side1 ?side2 ?side3 ?side4 A9.out).mono ?_); (case side1 => repeat (first | exact (Kd.C_below HR0_1.out HB.out) | (with_reducible refine Kd.C_alloc ?_ _) | (with_reducible refine Kd.C_drewN ?_ _) | (with_reducible refine Kd.C_drew ?_))); (case side2 => exact HC0_1.out); (case side3 => repeat (first | exact (Kd.C_below HR0_2.out HB.out) | (with_reducible refine Kd.C_alloc ?_ _) | (with_reducible refine Kd.C_drewN ?_ _) | (with_reducible refine Kd.C_drew ?_))); (case side4 => exact HC0_2.out); rintro e w17 ⟨rfl, hb⟩; refine ⟨_, rfl, ?_⟩; have n0_ := qM (blk_below (bz BK135) hb); have n1_ := qM (blk_below (bz BK136) hb); have n2_ := qM (blk_below (bz BK137) hb); have n3_ := qM (below_step (yb HB) hb); clear BK135 BK136 BK137 HB; revert n0_ n1_ n2_ n3_; intro BK135 BK136 BK137 HB; (try clear hb); (try clear hb2); (try clear hk); (try clear hi); have hnb18 := NB136_137.out; have hnc18 := NB137_136.out; have hcz19_0 : w17.cell? ⟨gb136, 0, none⟩ = some (.int .i64 a1_0) := (zC BK136.out 0).trans rfl; have hcz19_1 : w17.cell? ⟨gb136, 1, none⟩ = some (.int .i64 a1_1) := (zC BK136.out 1).trans rfl; have hcz19_2 : w17.cell? ⟨gb136, 2, none⟩ = some (.slice A1_2 l1_2.length c1_2) := (zC BK136.out 2).trans rfl; have hcz19_3 : w17.cell? ⟨gb136, 3, none⟩ = some (.int .i64 a1_3) := (zC BK136.out 3).trans rfl; have hcz19_4 : w17.cell? ⟨gb136, 4, none⟩ = some (.int .i64 a1_4) := (zC BK136.out 4).trans rfl; have hcz19_5 : w17.cell? ⟨gb136, 5, none⟩ = some (.int .i64 a1_5) := (zC BK136.out 5).trans rfl; have hfz19_0 := zF BK136.out 0; have hfz19_1 := zF BK136.out 1; have hfz19_2 := zF BK136.out 2; have hfz19_3 := zF BK136.out 3; have hfz19_4 := zF BK136.out 4; have hfz19_5 := zF BK136.out 5) | (go_at_call 53; (with_reducible refine (spec_l6AskOk.calls a1_0 a1_1 _ _ l1_2 a1_3 a1_4 a1_5 true _ ?side1 ?side2 A11.out).mono ?_); (case side1 => repeat (first | exact (Kd.C_below HR1_2.out HB.out) | (with_reducible refine Kd.C_alloc ?_ _) | (with_reducible refine Kd.C_drewN ?_ _) | (with_reducible refine Kd.C_drew ?_))); (case side2 => exact HC1_2.out); rintro e w20 ⟨rfl, hb⟩; have n0_ := qM (blk_below (bz BK135) hb); have n1_ := qM (blk_below (bz BK136) hb); have n2_ := qM (blk_below (bz BK137) hb); have n3_ := qM (below_step (yb HB) hb); clear BK135 BK136 BK137 HB; revert n0_ n1_ n2_ n3_; intro BK135 BK136 BK137 HB; (try clear hb); (try clear hb2); (try clear hk); (try clear hi)) | (go_at_call 54; (with_reducible refine (spec_BytMessage.calls _ _ l2 t140 _ ?side1 ?side2 A13.out).mono ?_); (case side1 => repeat (first | exact (Kd.C_below HR2.out HB.out) | (with_reducible refine Kd.C_alloc ?_ _) | (with_reducible refine Kd.C_drewN ?_ _) | (with_reducible refine Kd.C_drew ?_))); (case side2 => exact HC2.out); rintro e w' ⟨rfl, ⟨nd, rfl⟩⟩))
    go_meet
    case rel => exact ⟨_, (!t140), (by first | rfl | (simp; done) | (simp [*]; done)), H', ⟨by first | omega | exact Nat.le_refl _⟩, ⟨by (with_reducible repeat (first | refine zN ?_ _ | refine zD ?_ | refine zA ?_ _)); exact BK135.out⟩, ⟨by (with_reducible repeat (first | refine zN ?_ _ | refine zD ?_ | refine zA ?_ _)); exact BK136.out⟩, ⟨by (with_reducible repeat (first | refine zN ?_ _ | refine zD ?_ | refine zA ?_ _)); exact BK137.out⟩, ⟨by repeat (first | (with_reducible first | exact HB.out | apply yA | apply yN | apply yD | refine yS ?_ GE135.out | refine yS ?_ GE136.out | refine yS ?_ GE137.out) | exact HB.out)⟩⟩
   ·replace c12 := Bool.eq_false_iff.mpr c12
    subst c12
    have H1 : (spec_VmGive.j0 k l2 a3 true a0_0 l0_1 l0_2 a0_3 a1_0 a1_1 l1_2 a1_3 a1_4 a1_5) = some (r1, r2, r3, r4) := by rw [if_neg (show ¬ (false = true) by decide)] at H; exact H
    clear H
    have H := H1
    clear H1
    have H' := qM H
    clear H
    have hnb21 := NB135_136.out
    have hnc21 := NB136_135.out
    have hnb22 := NB135_137.out
    have hnc22 := NB137_135.out
    have hcz23_0 : w8.cell? ⟨gb135, 0, none⟩ = some (.int .i64 a0_0) := (zC BK135.out 0).trans rfl
    have hcz23_1 : w8.cell? ⟨gb135, 1, none⟩ = some (.slice A0_1 l0_1.length c0_1) := (zC BK135.out 1).trans rfl
    have hcz23_2 : w8.cell? ⟨gb135, 2, none⟩ = some (.slice A0_2 l0_2.length c0_2) := (zC BK135.out 2).trans rfl
    have hcz23_3 : w8.cell? ⟨gb135, 3, none⟩ = some (.int .i64 a0_3) := (zC BK135.out 3).trans rfl
    have hfz23_0 := zF BK135.out 0
    have hfz23_1 := zF BK135.out 1
    have hfz23_2 := zF BK135.out 2
    have hfz23_3 := zF BK135.out 3
    go_wp2_with (first | ((with_reducible refine gate_callee (f := 27) rfl ?_); refine goesL_ (some 12) rfl rfl Try.func27 (by kernel_rfl) rfl #[.agg #[.int .i64 a0_0, .slice A0_1 l0_1.length c0_1, .slice A0_2 l0_2.length c0_2, .int .i64 a0_3]] rfl (by (try simp only [List.map_toArray, List.map_cons, List.map_nil]); first | done | rfl | (simp only [List.length_drop, List.length_take]; rfl)) ?_; (with_reducible refine (spec_VmOk.calls k a0_0 _ _ l0_1 _ _ l0_2 a0_3 true _ ?side1 ?side2 ?side3 ?side4 A9.out).mono ?_); (case side1 => repeat (first | exact (Kd.C_below HR0_1.out HB.out) | (with_reducible refine Kd.C_alloc ?_ _) | (with_reducible refine Kd.C_drewN ?_ _) | (with_reducible refine Kd.C_drew ?_))); (case side2 => exact HC0_1.out); (case side3 => repeat (first | exact (Kd.C_below HR0_2.out HB.out) | (with_reducible refine Kd.C_alloc ?_ _) | (with_reducible refine Kd.C_drewN ?_ _) | (with_reducible refine Kd.C_drew ?_))); (case side4 => exact HC0_2.out); rintro e w24 ⟨rfl, hb⟩; refine ⟨_, rfl, ?_⟩; have n0_ := qM (blk_below (bz BK135) hb); have n1_ := qM (blk_below (bz BK136) hb); have n2_ := qM (blk_below (bz BK137) hb); have n3_ := qM (below_step (yb HB) hb); clear BK135 BK136 BK137 HB; revert n0_ n1_ n2_ n3_; intro BK135 BK136 BK137 HB; (try clear hb); (try clear hb2); (try clear hk); (try clear hi); have hnb25 := NB136_137.out; have hnc25 := NB137_136.out; have hcz26_0 : w24.cell? ⟨gb136, 0, none⟩ = some (.int .i64 a1_0) := (zC BK136.out 0).trans rfl; have hcz26_1 : w24.cell? ⟨gb136, 1, none⟩ = some (.int .i64 a1_1) := (zC BK136.out 1).trans rfl; have hcz26_2 : w24.cell? ⟨gb136, 2, none⟩ = some (.slice A1_2 l1_2.length c1_2) := (zC BK136.out 2).trans rfl; have hcz26_3 : w24.cell? ⟨gb136, 3, none⟩ = some (.int .i64 a1_3) := (zC BK136.out 3).trans rfl; have hcz26_4 : w24.cell? ⟨gb136, 4, none⟩ = some (.int .i64 a1_4) := (zC BK136.out 4).trans rfl; have hcz26_5 : w24.cell? ⟨gb136, 5, none⟩ = some (.int .i64 a1_5) := (zC BK136.out 5).trans rfl; have hfz26_0 := zF BK136.out 0; have hfz26_1 := zF BK136.out 1; have hfz26_2 := zF BK136.out 2; have hfz26_3 := zF BK136.out 3; have hfz26_4 := zF BK136.out 4; have hfz26_5 := zF BK136.out 5) | (go_at_call 53; (with_reducible refine (spec_l6AskOk.calls a1_0 a1_1 _ _ l1_2 a1_3 a1_4 a1_5 false _ ?side1 ?side2 A11.out).mono ?_); (case side1 => repeat (first | exact (Kd.C_below HR1_2.out HB.out) | (with_reducible refine Kd.C_alloc ?_ _) | (with_reducible refine Kd.C_drewN ?_ _) | (with_reducible refine Kd.C_drew ?_))); (case side2 => exact HC1_2.out); rintro e w27 ⟨rfl, hb⟩; have n0_ := qM (blk_below (bz BK135) hb); have n1_ := qM (blk_below (bz BK136) hb); have n2_ := qM (blk_below (bz BK137) hb); have n3_ := qM (below_step (yb HB) hb); clear BK135 BK136 BK137 HB; revert n0_ n1_ n2_ n3_; intro BK135 BK136 BK137 HB; (try clear hb); (try clear hb2); (try clear hk); (try clear hi)))
    go_meet
    case rel => exact ⟨_, (true), (by first | rfl | (simp; done) | (simp [*]; done)), H', ⟨by first | omega | exact Nat.le_refl _⟩, ⟨by (with_reducible repeat (first | refine zN ?_ _ | refine zD ?_ | refine zA ?_ _)); exact BK135.out⟩, ⟨by (with_reducible repeat (first | refine zN ?_ _ | refine zD ?_ | refine zA ?_ _)); exact BK136.out⟩, ⟨by (with_reducible repeat (first | refine zN ?_ _ | refine zD ?_ | refine zA ?_ _)); exact BK137.out⟩, ⟨by repeat (first | (with_reducible first | exact HB.out | apply yA | apply yN | apply yD | refine yS ?_ GE135.out | refine yS ?_ GE136.out | refine yS ?_ GE137.out) | exact HB.out)⟩⟩
  ·replace c10 := Bool.eq_false_iff.mpr c10
   subst c10
   have H1 : (spec_VmGive.j0 k l2 a3 true a0_0 l0_1 l0_2 a0_3 a1_0 a1_1 l1_2 a1_3 a1_4 a1_5) = some (r1, r2, r3, r4) := by rw [if_neg (show ¬ (false = true) by decide)] at H; exact H
   clear H
   have H := H1
   clear H1
   have H' := qM H
   clear H
   have hnb28 := NB135_136.out
   have hnc28 := NB136_135.out
   have hnb29 := NB135_137.out
   have hnc29 := NB137_135.out
   have hcz30_0 : w8.cell? ⟨gb135, 0, none⟩ = some (.int .i64 a0_0) := (zC BK135.out 0).trans rfl
   have hcz30_1 : w8.cell? ⟨gb135, 1, none⟩ = some (.slice A0_1 l0_1.length c0_1) := (zC BK135.out 1).trans rfl
   have hcz30_2 : w8.cell? ⟨gb135, 2, none⟩ = some (.slice A0_2 l0_2.length c0_2) := (zC BK135.out 2).trans rfl
   have hcz30_3 : w8.cell? ⟨gb135, 3, none⟩ = some (.int .i64 a0_3) := (zC BK135.out 3).trans rfl
   have hfz30_0 := zF BK135.out 0
   have hfz30_1 := zF BK135.out 1
   have hfz30_2 := zF BK135.out 2
   have hfz30_3 := zF BK135.out 3
   go_wp2_with (first | ((with_reducible refine gate_callee (f := 27) rfl ?_); refine goesL_ (some 12) rfl rfl Try.func27 (by kernel_rfl) rfl #[.agg #[.int .i64 a0_0, .slice A0_1 l0_1.length c0_1, .slice A0_2 l0_2.length c0_2, .int .i64 a0_3]] rfl (by (try simp only [List.map_toArray, List.map_cons, List.map_nil]); first | done | rfl | (simp only [List.length_drop, List.length_take]; rfl)) ?_; (with_reducible refine (spec_VmOk.calls k a0_0 _ _ l0_1 _ _ l0_2 a0_3 false _ ?side1 ?side2 ?side3 ?side4 A9.out).mono ?_); (case side1 => repeat (first | exact (Kd.C_below HR0_1.out HB.out) | (with_reducible refine Kd.C_alloc ?_ _) | (with_reducible refine Kd.C_drewN ?_ _) | (with_reducible refine Kd.C_drew ?_))); (case side2 => exact HC0_1.out); (case side3 => repeat (first | exact (Kd.C_below HR0_2.out HB.out) | (with_reducible refine Kd.C_alloc ?_ _) | (with_reducible refine Kd.C_drewN ?_ _) | (with_reducible refine Kd.C_drew ?_))); (case side4 => exact HC0_2.out); rintro e w31 ⟨rfl, hb⟩; refine ⟨_, rfl, ?_⟩; have n0_ := qM (blk_below (bz BK135) hb); have n1_ := qM (blk_below (bz BK136) hb); have n2_ := qM (blk_below (bz BK137) hb); have n3_ := qM (below_step (yb HB) hb); clear BK135 BK136 BK137 HB; revert n0_ n1_ n2_ n3_; intro BK135 BK136 BK137 HB; (try clear hb); (try clear hb2); (try clear hk); (try clear hi)))
   go_meet
   case rel => exact ⟨_, (true), (by first | rfl | (simp; done) | (simp [*]; done)), H', ⟨by first | omega | exact Nat.le_refl _⟩, ⟨by (with_reducible repeat (first | refine zN ?_ _ | refine zD ?_ | refine zA ?_ _)); exact BK135.out⟩, ⟨by (with_reducible repeat (first | refine zN ?_ _ | refine zD ?_ | refine zA ?_ _)); exact BK136.out⟩, ⟨by (with_reducible repeat (first | refine zN ?_ _ | refine zD ?_ | refine zA ?_ _)); exact BK137.out⟩, ⟨by repeat (first | (with_reducible first | exact HB.out | apply yA | apply yN | apply yD | refine yS ?_ GE135.out | refine yS ?_ GE136.out | refine yS ?_ GE137.out) | exact HB.out)⟩⟩
 case rest =>
  clear HC5
  try clear c1
  try clear c2
  try clear p2
  try clear c10
  try clear c12
  try clear c13
  try clear c14
  try clear c15
  try clear c18
  try clear c21
  try clear c22
  try clear c25
  try clear c27
  try clear c28
  try clear c29
  try clear hcz16_0
  try clear hcz16_1
  try clear hcz16_2
  try clear hcz16_3
  try clear hcz19_0
  try clear hcz19_1
  try clear hcz19_2
  try clear hcz19_3
  try clear hcz19_4
  try clear hcz19_5
  try clear hcz23_0
  try clear hcz23_1
  try clear hcz23_2
  try clear hcz23_3
  try clear hcz26_0
  try clear hcz26_1
  try clear hcz26_2
  try clear hcz26_3
  try clear hcz26_4
  try clear hcz26_5
  try clear hcz30_0
  try clear hcz30_1
  try clear hcz30_2
  try clear hcz30_3
  try clear hfz16_0
  try clear hfz16_1
  try clear hfz16_2
  try clear hfz16_3
  try clear hfz19_0
  try clear hfz19_1
  try clear hfz19_2
  try clear hfz19_3
  try clear hfz19_4
  try clear hfz19_5
  try clear hfz23_0
  try clear hfz23_1
  try clear hfz23_2
  try clear hfz23_3
  try clear hfz26_0
  try clear hfz26_1
  try clear hfz26_2
  try clear hfz26_3
  try clear hfz26_4
  try clear hfz26_5
  try clear hfz30_0
  try clear hfz30_1
  try clear hfz30_2
  try clear hfz30_3
  obtain ⟨kq, x23_4, rfl, HA, HJ4, BK135, BK136, BK137, HB⟩ := hcut
  cases kq with
  | zero => exact absurd HA.out (by simp [spec_VmGive.j0])
  | succ kj4 =>
   have H := HA.out
   clear HA
   simp only [spec_VmGive.j0] at H
   by_cases c32 : x23_4 = true
   ·subst c32
    have H1 : (some (0, ([] : List Int), ([] : List Int), 0)) = some (r1, r2, r3, r4) := by rw [if_pos rfl] at H; exact H
    clear H
    have H := H1
    clear H1
    simp only [Option.some.injEq, Prod.mk.injEq] at H
    obtain ⟨rfl, rfl, rfl, rfl⟩ := H
    have hnb33 := NB137_135.out
    have hnc33 := NB135_137.out
    have hnb34 := NB137_136.out
    have hnc34 := NB136_137.out
    have hcz35_0 : wc.cell? ⟨gb137, 0, none⟩ = some (.int .i64 0) := (zC BK137.out 0).trans rfl
    have hcz35_1 : wc.cell? ⟨gb137, 1, none⟩ = some (.slice none 0 0) := (zC BK137.out 1).trans rfl
    have hcz35_2 : wc.cell? ⟨gb137, 2, none⟩ = some (.slice none 0 0) := (zC BK137.out 2).trans rfl
    have hcz35_3 : wc.cell? ⟨gb137, 3, none⟩ = some (.int .i64 0) := (zC BK137.out 3).trans rfl
    have hfz35_0 := zF BK137.out 0
    have hfz35_1 := zF BK137.out 1
    have hfz35_2 := zF BK137.out 2
    have hfz35_3 := zF BK137.out 3
    go_wp2
    refine bodyPost_ret (results_cell_row rfl _ _ gb137 30 #[.int .i64 0, .slice none 0 0, .slice none 0 0, .int .i64 0] (0, 0) _ rfl (by (with_reducible repeat (first | refine zN ?_ _ | refine zD ?_ | refine zA ?_ _)); refine blk_put (cs := #[.int .i64 0, .slice none 0 0, .slice none 0 0, .int .i64 0]) ?_ 3 _ rfl; (with_reducible repeat (first | refine zN ?_ _ | refine zD ?_ | refine zA ?_ _)); refine blk_put (cs := #[.int .i64 0, .slice none 0 0, .slice none 0 0, .int .i64 0]) ?_ 2 _ rfl; (with_reducible repeat (first | refine zN ?_ _ | refine zD ?_ | refine zA ?_ _)); refine blk_put (cs := #[.int .i64 0, .slice none 0 0, .slice none 0 0, .int .i64 0]) ?_ 1 _ rfl; (with_reducible repeat (first | refine zN ?_ _ | refine zD ?_ | refine zA ?_ _)); refine blk_put (cs := #[.int .i64 0, .slice none 0 0, .slice none 0 0, .int .i64 0]) ?_ 0 _ rfl; (with_reducible repeat (first | refine zN ?_ _ | refine zD ?_ | refine zA ?_ _)); exact BK137.out) Try.underlying30 rfl (by kernel_rfl)) rfl ?_
    exact ⟨_, _, by first | rfl | (simp [errW_none, errW_some] <;> rfl) | (simp [*, errW_none, errW_some] <;> rfl), by first | exact Kd.R_nil _ _ _ _ _ | exact Kd.N_nil _ _ _ _ _ | exact Kd.V_nil _ _ _ _ _ | exact Kd.Q_nil _ _ _ _ _ | exact Kd.S_nil _ _ _ _ _, by first | exact Kd.R_nil _ _ _ _ _ | exact Kd.N_nil _ _ _ _ _ | exact Kd.V_nil _ _ _ _ _ | exact Kd.Q_nil _ _ _ _ _ | exact Kd.S_nil _ _ _ _ _, by repeat (first | (with_reducible first | exact HB.out | apply yA | apply yN | apply yD | refine yS ?_ GE135.out | refine yS ?_ GE136.out | refine yS ?_ GE137.out) | exact HB.out)⟩
   ·replace c32 := Bool.eq_false_iff.mpr c32
    subst c32
    have H1 : ((spec_l6Copy.f a0_0 l0_1 l0_2 a0_3).bind fun bt141 => (if bt141.2.2.2 = 0 then (if a1_0 = 1 then (if a3 = true then (if 0 ≤ a1_4 then (if a1_4 < (bt141.2.1.length : Int) then (some (bt141.1, (bt141.2.1.set (a1_4 : Int).toNat 1), bt141.2.2.1, bt141.2.2.2)) else (none)) else (none)) else (if 0 ≤ a1_4 then (if a1_4 < (bt141.2.1.length : Int) then (some (bt141.1, (bt141.2.1.set (a1_4 : Int).toNat 0), bt141.2.2.1, bt141.2.2.2)) else (none)) else (none))) else (if a1_0 = 2 then (if a3 = true then (spec_VmGive.j1 kj4 l2 a3 0 (decide ((wrap64 (a1_3 + (l2.length : Int))) > 8)) a1_0 a1_1 l1_2 a1_3 a1_4 a1_5 bt141.1 bt141.2.1 bt141.2.2.1 bt141.2.2.2) else (spec_VmGive.j1 kj4 l2 a3 0 false a1_0 a1_1 l1_2 a1_3 a1_4 a1_5 bt141.1 bt141.2.1 bt141.2.2.1 bt141.2.2.2)) else (if a1_0 = 3 then (if a3 = true then (if (l2.length : Int) > 0 then (if 0 < (l2.length : Int) then (if 0 ≤ a1_4 then (if a1_4 < (bt141.2.1.length : Int) then (if 0 ≤ a1_5 then (if a1_5 < (bt141.2.1.length : Int) then (some (bt141.1, ((bt141.2.1.set (a1_4 : Int).toNat (wrap64 (rd l2 0))).set (a1_5 : Int).toNat 1), bt141.2.2.1, bt141.2.2.2)) else (none)) else (none)) else (none)) else (none)) else (none)) else (if 0 ≤ a1_4 then (if a1_4 < (bt141.2.1.length : Int) then (if 0 ≤ a1_5 then (if a1_5 < (bt141.2.1.length : Int) then (some (bt141.1, ((bt141.2.1.set (a1_4 : Int).toNat 0).set (a1_5 : Int).toNat 0), bt141.2.2.1, bt141.2.2.2)) else (none)) else (none)) else (none)) else (none))) else (if 0 ≤ a1_4 then (if a1_4 < (bt141.2.1.length : Int) then (if 0 ≤ a1_5 then (if a1_5 < (bt141.2.1.length : Int) then (some (bt141.1, ((bt141.2.1.set (a1_4 : Int).toNat 0).set (a1_5 : Int).toNat 0), bt141.2.2.1, bt141.2.2.2)) else (none)) else (none)) else (none)) else (none))) else (some (bt141.1, bt141.2.1, bt141.2.2.1, bt141.2.2.2))))) else (some (bt141.1, bt141.2.1, bt141.2.2.1, bt141.2.2.2)))) = some (r1, r2, r3, r4) := by rw [if_neg (show ¬ (false = true) by decide)] at H; exact H
    clear H
    have H := H1
    clear H1
    replace H := Option.bind_eq_some_iff.mp H
    obtain ⟨⟨t141, t142, t145, t148⟩, A360, H⟩ := H
    replace H : (if t148 = 0 then (if a1_0 = 1 then (if a3 = true then (if 0 ≤ a1_4 then (if a1_4 < (t142.length : Int) then (some (t141, (t142.set (a1_4 : Int).toNat 1), t145, t148)) else (none)) else (none)) else (if 0 ≤ a1_4 then (if a1_4 < (t142.length : Int) then (some (t141, (t142.set (a1_4 : Int).toNat 0), t145, t148)) else (none)) else (none))) else (if a1_0 = 2 then (if a3 = true then (spec_VmGive.j1 kj4 l2 a3 0 (decide ((wrap64 (a1_3 + (l2.length : Int))) > 8)) a1_0 a1_1 l1_2 a1_3 a1_4 a1_5 t141 t142 t145 t148) else (spec_VmGive.j1 kj4 l2 a3 0 false a1_0 a1_1 l1_2 a1_3 a1_4 a1_5 t141 t142 t145 t148)) else (if a1_0 = 3 then (if a3 = true then (if (l2.length : Int) > 0 then (if 0 < (l2.length : Int) then (if 0 ≤ a1_4 then (if a1_4 < (t142.length : Int) then (if 0 ≤ a1_5 then (if a1_5 < (t142.length : Int) then (some (t141, ((t142.set (a1_4 : Int).toNat (wrap64 (rd l2 0))).set (a1_5 : Int).toNat 1), t145, t148)) else (none)) else (none)) else (none)) else (none)) else (none)) else (if 0 ≤ a1_4 then (if a1_4 < (t142.length : Int) then (if 0 ≤ a1_5 then (if a1_5 < (t142.length : Int) then (some (t141, ((t142.set (a1_4 : Int).toNat 0).set (a1_5 : Int).toNat 0), t145, t148)) else (none)) else (none)) else (none)) else (none))) else (if 0 ≤ a1_4 then (if a1_4 < (t142.length : Int) then (if 0 ≤ a1_5 then (if a1_5 < (t142.length : Int) then (some (t141, ((t142.set (a1_4 : Int).toNat 0).set (a1_5 : Int).toNat 0), t145, t148)) else (none)) else (none)) else (none)) else (none))) else (some (t141, t142, t145, t148))))) else (some (t141, t142, t145, t148))) = some (r1, r2, r3, r4) := H
    have A36 := qM A360
    clear A360
    by_cases c37 : t148 = 0
    ·rw [if_pos c37] at H
     have c37b0 : (t148 == 0) = true := beq_iff_eq.mpr c37
     have c37b1 : (t148 != 0) = false := bne_eq_false_iff_eq.mpr c37
     clear c37
     by_cases c38 : a1_0 = 1
     ·rw [if_pos c38] at H
      have c38b0 : (a1_0 == 1) = true := beq_iff_eq.mpr c38
      have c38b1 : (a1_0 != 1) = false := bne_eq_false_iff_eq.mpr c38
      clear c38
      by_cases c39 : a3 = true
      ·subst c39
       have H1 : (if 0 ≤ a1_4 then (if a1_4 < (t142.length : Int) then (some (t141, (t142.set (a1_4 : Int).toNat 1), t145, t148)) else (none)) else (none)) = some (r1, r2, r3, r4) := by rw [if_pos rfl] at H; exact H
       clear H
       have H := H1
       clear H1
       by_cases c40 : 0 ≤ a1_4
       ·rw [if_pos c40] at H
        have c40b0 : decide (0 ≤ a1_4) = true := decide_eq_true c40
        clear c40
        by_cases c41 : a1_4 < (t142.length : Int)
        ·rw [if_pos c41] at H
         have c41b0 : decide (a1_4 < (t142.length : Int)) = true := decide_eq_true c41
         clear c41
         obtain ⟨y150, hy150⟩ : ∃ y_ : List Int, y_ = (t142.set (a1_4 : Int).toNat 1) := ⟨_, rfl⟩
         replace H : (some (t141, y150, t145, t148)) = some (r1, r2, r3, r4) := by first | (rw [hy150]; with_reducible exact H) | (have H2_ := (Option.bind_some _ _).symm.trans H; rw [hy150]; with_reducible exact H2_) | (have H2_ := (Option.bind_some _ _).symm.trans H; with_reducible exact H2_) | with_reducible exact H | (rw [hy150]; exact H) | exact H
         have Ny150 := qM hy150
         clear hy150
         simp only [Option.some.injEq, Prod.mk.injEq] at H
         obtain ⟨rfl, rfl, rfl, rfl⟩ := H
         have hnb43 := NB135_136.out
         have hnc43 := NB136_135.out
         have hnb44 := NB135_137.out
         have hnc44 := NB137_135.out
         have hcz45_0 : wc.cell? ⟨gb135, 0, none⟩ = some (.int .i64 a0_0) := (zC BK135.out 0).trans rfl
         have hcz45_1 : wc.cell? ⟨gb135, 1, none⟩ = some (.slice A0_1 l0_1.length c0_1) := (zC BK135.out 1).trans rfl
         have hcz45_2 : wc.cell? ⟨gb135, 2, none⟩ = some (.slice A0_2 l0_2.length c0_2) := (zC BK135.out 2).trans rfl
         have hcz45_3 : wc.cell? ⟨gb135, 3, none⟩ = some (.int .i64 a0_3) := (zC BK135.out 3).trans rfl
         have hfz45_0 := zF BK135.out 0
         have hfz45_1 := zF BK135.out 1
         have hfz45_2 := zF BK135.out 2
         have hfz45_3 := zF BK135.out 3
         go_wp2_with (first | ((with_reducible refine gate_callee (f := 55) rfl ?_); refine goesL_ (some 26) rfl rfl Try.func55 (by kernel_rfl) rfl #[.agg #[.int .i64 a0_0, .slice A0_1 l0_1.length c0_1, .slice A0_2 l0_2.length c0_2, .int .i64 a0_3]] rfl (by (try simp only [List.map_toArray, List.map_cons, List.map_nil]); first | done | rfl | (simp only [List.length_drop, List.length_take]; rfl)) ?_; (with_reducible refine (spec_l6Copy.calls a0_0 _ _ l0_1 _ _ l0_2 a0_3 t141 t142 t145 t148 _ ?side1 ?side2 ?side3 ?side4 A36.out).mono ?_); (case side1 => repeat (first | exact (Kd.C_below HR0_1.out HB.out) | (with_reducible refine Kd.C_alloc ?_ _) | (with_reducible refine Kd.C_drewN ?_ _) | (with_reducible refine Kd.C_drew ?_))); (case side2 => exact HC0_1.out); (case side3 => repeat (first | exact (Kd.C_below HR0_2.out HB.out) | (with_reducible refine Kd.C_alloc ?_ _) | (with_reducible refine Kd.C_drewN ?_ _) | (with_reducible refine Kd.C_drew ?_))); (case side4 => exact HC0_2.out); rintro e w46 ⟨v143, v146, rfl, ho0, ho1, hb⟩; refine ⟨_, rfl, ?_⟩; have n0_ := qM (Kd.R_lower ho0 (below_size (yb HB))); have n1_ := qM (Kd.R_lower ho1 (below_size (yb HB))); have n2_ := qM (blk_below (bz BK135) hb); have n3_ := qM (blk_below (bz BK136) hb); have n4_ := qM (blk_below (bz BK137) hb); have n5_ := qM (below_step (yb HB) hb); clear BK135 BK136 BK137 HB; revert n0_ n1_ n2_ n3_ n4_ n5_; intro HO144 HO147 BK135 BK136 BK137 HB; (try clear hb); (try clear hb2); (try clear hk); (try clear hi); (try clear ho0); (try clear ho1)) | ((with_reducible refine gate_dst (N := 9) rfl ?_); (try (refine gate_guard (by rfl) ?_; dsimp only)); refine box_event ?hg (N := 9) ?hd (cs := #[.int .i64 0, .slice none 0 0, .slice none 0 0, .int .i64 0]) (t := 30) ?hr ?_; (case hd => rfl); (case hg => rfl); (case hr => first | (go_simp; done) | (go_simp; rfl)); intro gb149 hg w47 hbox hb; have n0_ := qM (Kd.R_below (qz HO144) hb); have n1_ := qM (Kd.R_below (qz HO147) hb); have n2_ := qM (blk_below (bz BK135) hb); have n3_ := qM (blk_below (bz BK136) hb); have n4_ := qM (blk_below (bz BK137) hb); have n5_ := qM (below_step (yb HB) hb); have n6_ := qM (hbox); have n7_ := qM ((by rw [hg]; exact (below_size (yb HB)) : w.heap.size ≤ gb149)); have n8_ := qM ((by rw [hg]; exact (below_size (yb HB)) : w.heap.size ≤ gb149)); have n9_ := qM ((by rw [hg]; exact Nat.ne_of_lt (blk_lt (bz BK135)) : gb135 ≠ gb149)); have n10_ := qM ((by rw [hg]; exact Nat.ne_of_gt (blk_lt (bz BK135)) : gb149 ≠ gb135)); have n11_ := qM ((by rw [hg]; exact Nat.ne_of_lt (blk_lt (bz BK136)) : gb136 ≠ gb149)); have n12_ := qM ((by rw [hg]; exact Nat.ne_of_gt (blk_lt (bz BK136)) : gb149 ≠ gb136)); have n13_ := qM ((by rw [hg]; exact Nat.ne_of_lt (blk_lt (bz BK137)) : gb137 ≠ gb149)); have n14_ := qM ((by rw [hg]; exact Nat.ne_of_gt (blk_lt (bz BK137)) : gb149 ≠ gb137)); clear HO144 HO147 BK135 BK136 BK137 HB; revert n0_ n1_ n2_ n3_ n4_ n5_ n6_ n7_ n8_ n9_ n10_ n11_ n12_ n13_ n14_; intro HO144 HO147 BK135 BK136 BK137 HB BK149 GW149 GE149 NB135_149 NB149_135 NB136_149 NB149_136 NB137_149 NB149_137; clear hb hbox hg; have hnb48 := NB149_135.out; have hnc48 := NB135_149.out; have hnb49 := NB149_136.out; have hnc49 := NB136_149.out; have hnb50 := NB149_137.out; have hnc50 := NB137_149.out; have hcz51_0 : w47.cell? ⟨gb149, 0, none⟩ = some (.int .i64 0) := (zC BK149.out 0).trans rfl; have hcz51_1 : w47.cell? ⟨gb149, 1, none⟩ = some (.slice none 0 0) := (zC BK149.out 1).trans rfl; have hcz51_2 : w47.cell? ⟨gb149, 2, none⟩ = some (.slice none 0 0) := (zC BK149.out 2).trans rfl; have hcz51_3 : w47.cell? ⟨gb149, 3, none⟩ = some (.int .i64 0) := (zC BK149.out 3).trans rfl; have hfz51_0 := zF BK149.out 0; have hfz51_1 := zF BK149.out 1; have hfz51_2 := zF BK149.out 2; have hfz51_3 := zF BK149.out 3; obtain ⟨Ao52, co52, eo52⟩ := Kd.R_slice HO144.out; subst eo52; obtain ⟨Ao53, co53, eo53⟩ := Kd.R_slice HO147.out; subst eo53) | ((with_reducible refine gate_store (t := 30) (p := 9) rfl ?_); refine store_event (t := 30) (p := 9) (v := ?vo_w54) (w1 := ((((w47.setCell ⟨gb149, 0, none⟩ (.int .i64 t141)).setCell ⟨gb149, 1, none⟩ (.slice Ao52 t142.length co52)).setCell ⟨gb149, 2, none⟩ (.slice Ao53 t145.length co53)).setCell ⟨gb149, 3, none⟩ (.int .i64 t148))) ?hg ?ho ?hn ?hr ?_; (case ho => rfl); (case hg => rfl); (case hn => rfl); (case hr => first | (go_simp; done) | (go_simp; rfl)); intro w54 hw; have n0_ : Aside0 (Kd.R (Kd.int .i64) 3 w54 w.heap.size (fun k_ => some k_ ≠ (.slice Ao53 t145.length co53 : Value).ownBlock) (.slice Ao52 t142.length co52) t142) := ⟨(by rw [hw]; exact (by (with_reducible repeat (first | apply qA | apply qN | apply qD)); exact Kd.R_mono (qF (p := ⟨gb149, 3, none⟩) (qF (p := ⟨gb149, 2, none⟩) (qF (p := ⟨gb149, 1, none⟩) (qF (p := ⟨gb149, 0, none⟩) (Kd.R_types HO144.out BK149.out (by decide)) (fun _ hk => hk.2) (.int .i64 t141)) (fun _ hk => hk.2) (.slice Ao52 t142.length co52)) (fun _ hk => hk.2) (.slice Ao53 t145.length co53)) (fun _ hk => hk.2) (.int .i64 t148)) (fun _ hk => hk.1)))⟩; have n1_ : Aside0 (Kd.R (Kd.int .i64) 3 w54 w.heap.size (fun k_ => some k_ ≠ (.slice Ao52 t142.length co52 : Value).ownBlock) (.slice Ao53 t145.length co53) t145) := ⟨(by rw [hw]; exact (by (with_reducible repeat (first | apply qA | apply qN | apply qD)); exact Kd.R_mono (qF (p := ⟨gb149, 3, none⟩) (qF (p := ⟨gb149, 2, none⟩) (qF (p := ⟨gb149, 1, none⟩) (qF (p := ⟨gb149, 0, none⟩) (Kd.R_types HO147.out BK149.out (by decide)) (fun _ hk => hk.2) (.int .i64 t141)) (fun _ hk => hk.2) (.slice Ao52 t142.length co52)) (fun _ hk => hk.2) (.slice Ao53 t145.length co53)) (fun _ hk => hk.2) (.int .i64 t148)) (fun _ hk => hk.1)))⟩; have n2_ : Aside0 (w54.heap[gb135]? = some (.cells #[.int .i64 a0_0, .slice A0_1 l0_1.length c0_1, .slice A0_2 l0_2.length c0_2, .int .i64 a0_3] 30 (0, 0))) := ⟨(by rw [hw]; exact (by (with_reducible repeat (first | refine zN ?_ _ | refine zD ?_ | refine zA ?_ _)); refine blk_far ?_ NB135_149.out _; (with_reducible repeat (first | refine zN ?_ _ | refine zD ?_ | refine zA ?_ _)); refine blk_far ?_ NB135_149.out _; (with_reducible repeat (first | refine zN ?_ _ | refine zD ?_ | refine zA ?_ _)); refine blk_far ?_ NB135_149.out _; (with_reducible repeat (first | refine zN ?_ _ | refine zD ?_ | refine zA ?_ _)); refine blk_far ?_ NB135_149.out _; (with_reducible repeat (first | refine zN ?_ _ | refine zD ?_ | refine zA ?_ _)); exact BK135.out))⟩; have n3_ : Aside0 (w54.heap[gb136]? = some (.cells #[.int .i64 a1_0, .int .i64 a1_1, .slice A1_2 l1_2.length c1_2, .int .i64 a1_3, .int .i64 a1_4, .int .i64 a1_5] 33 (0, 0))) := ⟨(by rw [hw]; exact (by (with_reducible repeat (first | refine zN ?_ _ | refine zD ?_ | refine zA ?_ _)); refine blk_far ?_ NB136_149.out _; (with_reducible repeat (first | refine zN ?_ _ | refine zD ?_ | refine zA ?_ _)); refine blk_far ?_ NB136_149.out _; (with_reducible repeat (first | refine zN ?_ _ | refine zD ?_ | refine zA ?_ _)); refine blk_far ?_ NB136_149.out _; (with_reducible repeat (first | refine zN ?_ _ | refine zD ?_ | refine zA ?_ _)); refine blk_far ?_ NB136_149.out _; (with_reducible repeat (first | refine zN ?_ _ | refine zD ?_ | refine zA ?_ _)); exact BK136.out))⟩; have n4_ : Aside0 (w54.heap[gb137]? = some (.cells #[.int .i64 0, .slice none 0 0, .slice none 0 0, .int .i64 0] 30 (0, 0))) := ⟨(by rw [hw]; exact (by (with_reducible repeat (first | refine zN ?_ _ | refine zD ?_ | refine zA ?_ _)); refine blk_far ?_ NB137_149.out _; (with_reducible repeat (first | refine zN ?_ _ | refine zD ?_ | refine zA ?_ _)); refine blk_far ?_ NB137_149.out _; (with_reducible repeat (first | refine zN ?_ _ | refine zD ?_ | refine zA ?_ _)); refine blk_far ?_ NB137_149.out _; (with_reducible repeat (first | refine zN ?_ _ | refine zD ?_ | refine zA ?_ _)); refine blk_far ?_ NB137_149.out _; (with_reducible repeat (first | refine zN ?_ _ | refine zD ?_ | refine zA ?_ _)); exact BK137.out))⟩; have n5_ : Aside0 (w54.heap[gb149]? = some (.cells #[.int .i64 t141, .slice Ao52 t142.length co52, .slice Ao53 t145.length co53, .int .i64 t148] 30 (0, 0))) := ⟨(by rw [hw]; exact (by (with_reducible repeat (first | refine zN ?_ _ | refine zD ?_ | refine zA ?_ _)); refine blk_put (cs := #[.int .i64 t141, .slice Ao52 t142.length co52, .slice Ao53 t145.length co53, .int .i64 0]) ?_ 3 _ rfl; (with_reducible repeat (first | refine zN ?_ _ | refine zD ?_ | refine zA ?_ _)); refine blk_put (cs := #[.int .i64 t141, .slice Ao52 t142.length co52, .slice none 0 0, .int .i64 0]) ?_ 2 _ rfl; (with_reducible repeat (first | refine zN ?_ _ | refine zD ?_ | refine zA ?_ _)); refine blk_put (cs := #[.int .i64 t141, .slice none 0 0, .slice none 0 0, .int .i64 0]) ?_ 1 _ rfl; (with_reducible repeat (first | refine zN ?_ _ | refine zD ?_ | refine zA ?_ _)); refine blk_put (cs := #[.int .i64 0, .slice none 0 0, .slice none 0 0, .int .i64 0]) ?_ 0 _ rfl; (with_reducible repeat (first | refine zN ?_ _ | refine zD ?_ | refine zA ?_ _)); exact BK149.out))⟩; have n6_ : Aside0 (Below w.heap.size w w54) := ⟨(by rw [hw]; exact (yb HB))⟩; clear hw HO144 HO147 BK135 BK136 BK137 BK149 HB; revert n0_ n1_ n2_ n3_ n4_ n5_ n6_; intro HO144 HO147 BK135 BK136 BK137 BK149 HB; have hcz55_0 : w54.cell? ⟨gb149, 0, none⟩ = some (.int .i64 t141) := (zC BK149.out 0).trans rfl; have hcz55_1 : w54.cell? ⟨gb149, 1, none⟩ = some (.slice Ao52 t142.length co52) := (zC BK149.out 1).trans rfl; have hcz55_2 : w54.cell? ⟨gb149, 2, none⟩ = some (.slice Ao53 t145.length co53) := (zC BK149.out 2).trans rfl; have hcz55_3 : w54.cell? ⟨gb149, 3, none⟩ = some (.int .i64 t148) := (zC BK149.out 3).trans rfl; have hfz55_0 := zF BK149.out 0; have hfz55_1 := zF BK149.out 1; have hfz55_2 := zF BK149.out 2; have hfz55_3 := zF BK149.out 3; have hnb56 := NB136_137.out; have hnc56 := NB137_136.out; have hcz57_0 : w54.cell? ⟨gb136, 0, none⟩ = some (.int .i64 a1_0) := (zC BK136.out 0).trans rfl; have hcz57_1 : w54.cell? ⟨gb136, 1, none⟩ = some (.int .i64 a1_1) := (zC BK136.out 1).trans rfl; have hcz57_2 : w54.cell? ⟨gb136, 2, none⟩ = some (.slice A1_2 l1_2.length c1_2) := (zC BK136.out 2).trans rfl; have hcz57_3 : w54.cell? ⟨gb136, 3, none⟩ = some (.int .i64 a1_3) := (zC BK136.out 3).trans rfl; have hcz57_4 : w54.cell? ⟨gb136, 4, none⟩ = some (.int .i64 a1_4) := (zC BK136.out 4).trans rfl; have hcz57_5 : w54.cell? ⟨gb136, 5, none⟩ = some (.int .i64 a1_5) := (zC BK136.out 5).trans rfl; have hfz57_0 := zF BK136.out 0; have hfz57_1 := zF BK136.out 1; have hfz57_2 := zF BK136.out 2; have hfz57_3 := zF BK136.out 3; have hfz57_4 := zF BK136.out 4; have hfz57_5 := zF BK136.out 5; have p42 : 0 ≤ (a1_4 : Int) := of_decide_eq_true (by first | (with_reducible assumption) | assumption); have q42 : (a1_4 : Int) < ((t142.length : Int) : Int) := of_decide_eq_true (by first | (with_reducible assumption) | assumption); obtain ⟨go42, co42, eo42, gb42, gl42, cl42, HG42⟩ := Kd.R_form HO144.out (by omega); (first | cases eo42 | (injection eo42 with ea_ en_ ec_; (first | subst ea_ | (injection ea_ with ea_; subst ea_)); subst ec_; clear en_)); have GB42 := qM gb42; have GG42 := qM HG42; clear gb42 gl42 HG42; obtain ⟨hx42_0, hf42_0⟩ := Kd.R_celln 0 HO144.out (a1_4 : Int) p42 q42; replace p42 := eq_true p42; replace q42 := eq_true q42; obtain ⟨hy58_, hz58_⟩ := Kd.R_celln 0 HO144.out (a1_4 : Int) (of_decide_eq_true (by first | (with_reducible assumption) | assumption)) (of_decide_eq_true (by first | (with_reducible assumption) | assumption)); have HP58 := Kd.R_putg HO144.out (a1_4 : Int) 1) | ((with_reducible refine gate_store (t := 3) (p := 41) rfl ?_); refine store_event (t := 3) (p := 41) (v := ?vo_w59) (w1 := (w54.setCell ⟨go42, (a1_4 : Int).toNat, none⟩ (.int .i64 1))) ?hg ?ho ?hn ?hr ?_; (case ho => rfl); (case hg => rfl); (case hn => rfl); (case hr => first | (go_simp; done) | (go_simp; rfl)); intro w59 hw; have hg : w54.grownBy w59 (some go42) := (by rw [hw]; exact HP58.2); have hp_ : Kd.R (Kd.int .i64) 3 w59 w.heap.size (fun k_ => some k_ ≠ (.slice Ao53 t145.length co53 : Value).ownBlock) (.slice (some ⟨go42, 0, none⟩) t142.length co52) y150 := (by rw [hw, Ny150.out]; exact HP58.1); clear HP58; have n0_ := qM (blk_grown (g := gb135) (o := .cells #[.int .i64 a0_0, .slice A0_1 l0_1.length c0_1, .slice A0_2 l0_2.length c0_2, .int .i64 a0_3] 30 (0, 0)) (bz BK135) hg (Kd.R_ne HO144.out BK135.out (by decide))); have n1_ := qM (blk_grown (g := gb136) (o := .cells #[.int .i64 a1_0, .int .i64 a1_1, .slice A1_2 l1_2.length c1_2, .int .i64 a1_3, .int .i64 a1_4, .int .i64 a1_5] 33 (0, 0)) (bz BK136) hg (Kd.R_ne HO144.out BK136.out (by decide))); have n2_ := qM (blk_grown (g := gb137) (o := .cells #[.int .i64 0, .slice none 0 0, .slice none 0 0, .int .i64 0] 30 (0, 0)) (bz BK137) hg (Kd.R_ne HO144.out BK137.out (by decide))); have n3_ := qM (hp_); have n4_ := qM (Kd.R_after (v := (.slice (some ⟨go42, 0, none⟩) t142.length co52)) (v1 := (.slice (some ⟨go42, 0, none⟩) t142.length co52)) (ok := (fun _ => True)) (by (with_reducible repeat (first | apply qA | apply qN | apply qD)); exact Kd.R_mono HO147.out (fun _ hk => ⟨trivial, hk⟩)) hg (.inl rfl)); have n5_ := qM (blk_grown (g := gb149) (o := .cells #[.int .i64 t141, .slice (some ⟨go42, 0, none⟩) t142.length co52, .slice Ao53 t145.length co53, .int .i64 t148] 30 (0, 0)) (bz BK149) hg (Kd.R_ne HO144.out BK149.out (by decide))); have n6_ := qM ((by rw [hw]; exact yS (HB.out) GB42.out : Below w.heap.size w w59)); clear BK135 BK136 BK137 HO144 HO147 BK149 HB; revert n0_ n1_ n2_ n3_ n4_ n5_ n6_; intro BK135 BK136 BK137 HO144 HO147 BK149 HB; clear hg hw hp_; have hcz60_0 : w59.cell? ⟨gb149, 0, none⟩ = some (.int .i64 t141) := (zC BK149.out 0).trans rfl; have hcz60_1 : w59.cell? ⟨gb149, 1, none⟩ = some (.slice (some ⟨go42, 0, none⟩) t142.length co52) := (zC BK149.out 1).trans rfl; have hcz60_2 : w59.cell? ⟨gb149, 2, none⟩ = some (.slice Ao53 t145.length co53) := (zC BK149.out 2).trans rfl; have hcz60_3 : w59.cell? ⟨gb149, 3, none⟩ = some (.int .i64 t148) := (zC BK149.out 3).trans rfl; have hfz60_0 := zF BK149.out 0; have hfz60_1 := zF BK149.out 1; have hfz60_2 := zF BK149.out 2; have hfz60_3 := zF BK149.out 3; have hcz61_0 : w59.cell? ⟨gb137, 0, none⟩ = some (.int .i64 0) := (zC BK137.out 0).trans rfl; have hcz61_1 : w59.cell? ⟨gb137, 1, none⟩ = some (.slice none 0 0) := (zC BK137.out 1).trans rfl; have hcz61_2 : w59.cell? ⟨gb137, 2, none⟩ = some (.slice none 0 0) := (zC BK137.out 2).trans rfl; have hcz61_3 : w59.cell? ⟨gb137, 3, none⟩ = some (.int .i64 0) := (zC BK137.out 3).trans rfl; have hfz61_0 := zF BK137.out 0; have hfz61_1 := zF BK137.out 1; have hfz61_2 := zF BK137.out 2; have hfz61_3 := zF BK137.out 3))
         refine bodyPost_ret (results_cell_row rfl _ _ gb137 30 #[.int .i64 t141, .slice (some ⟨go42, 0, none⟩) t142.length co52, .slice Ao53 t145.length co53, .int .i64 t148] (0, 0) _ rfl (by (with_reducible repeat (first | refine zN ?_ _ | refine zD ?_ | refine zA ?_ _)); refine blk_put (cs := #[.int .i64 t141, .slice (some ⟨go42, 0, none⟩) t142.length co52, .slice Ao53 t145.length co53, .int .i64 0]) ?_ 3 _ rfl; (with_reducible repeat (first | refine zN ?_ _ | refine zD ?_ | refine zA ?_ _)); refine blk_put (cs := #[.int .i64 t141, .slice (some ⟨go42, 0, none⟩) t142.length co52, .slice none 0 0, .int .i64 0]) ?_ 2 _ rfl; (with_reducible repeat (first | refine zN ?_ _ | refine zD ?_ | refine zA ?_ _)); refine blk_put (cs := #[.int .i64 t141, .slice none 0 0, .slice none 0 0, .int .i64 0]) ?_ 1 _ rfl; (with_reducible repeat (first | refine zN ?_ _ | refine zD ?_ | refine zA ?_ _)); refine blk_put (cs := #[.int .i64 0, .slice none 0 0, .slice none 0 0, .int .i64 0]) ?_ 0 _ rfl; (with_reducible repeat (first | refine zN ?_ _ | refine zD ?_ | refine zA ?_ _)); exact BK137.out) Try.underlying30 rfl (by kernel_rfl)) rfl ?_
         exact ⟨_, _, by first | rfl | (simp [errW_none, errW_some] <;> rfl) | (simp [*, errW_none, errW_some] <;> rfl), by (with_reducible repeat (first | apply qA | apply qN | apply qD)); exact Kd.R_mono (qF (p := ⟨gb137, 3, none⟩) (qF (p := ⟨gb137, 2, none⟩) (qF (p := ⟨gb137, 1, none⟩) (qF (p := ⟨gb137, 0, none⟩) (Kd.R_types HO144.out BK137.out (by decide)) (fun _ hk => hk.2) (.int .i64 t141)) (fun _ hk => hk.2) (.slice (some ⟨go42, 0, none⟩) t142.length co52)) (fun _ hk => hk.2) (.slice Ao53 t145.length co53)) (fun _ hk => hk.2) (.int .i64 t148)) (fun _ hk => hk.1), by (with_reducible repeat (first | apply qA | apply qN | apply qD)); exact Kd.R_mono (qF (p := ⟨gb137, 3, none⟩) (qF (p := ⟨gb137, 2, none⟩) (qF (p := ⟨gb137, 1, none⟩) (qF (p := ⟨gb137, 0, none⟩) (Kd.R_types HO147.out BK137.out (by decide)) (fun _ hk => hk.2) (.int .i64 t141)) (fun _ hk => hk.2) (.slice (some ⟨go42, 0, none⟩) t142.length co52)) (fun _ hk => hk.2) (.slice Ao53 t145.length co53)) (fun _ hk => hk.2) (.int .i64 t148)) (fun _ hk => hk.1.2), by repeat (first | (with_reducible first | exact HB.out | apply yA | apply yN | apply yD | refine yS ?_ GE135.out | refine yS ?_ GE136.out | refine yS ?_ GE137.out | refine yS ?_ GE149.out) | exact HB.out)⟩
        ·rw [if_neg c41] at H
         exact absurd H (by simp)
       ·rw [if_neg c40] at H
        exact absurd H (by simp)
      ·replace c39 := Bool.eq_false_iff.mpr c39
       subst c39
       have H1 : (if 0 ≤ a1_4 then (if a1_4 < (t142.length : Int) then (some (t141, (t142.set (a1_4 : Int).toNat 0), t145, t148)) else (none)) else (none)) = some (r1, r2, r3, r4) := by rw [if_neg (show ¬ (false = true) by decide)] at H; exact H
       clear H
       have H := H1
       clear H1
       by_cases c62 : 0 ≤ a1_4
       ·rw [if_pos c62] at H
        have c62b0 : decide (0 ≤ a1_4) = true := decide_eq_true c62
        clear c62
        by_cases c63 : a1_4 < (t142.length : Int)
        ·rw [if_pos c63] at H
         have c63b0 : decide (a1_4 < (t142.length : Int)) = true := decide_eq_true c63
         clear c63
         obtain ⟨y151, hy151⟩ : ∃ y_ : List Int, y_ = (t142.set (a1_4 : Int).toNat 0) := ⟨_, rfl⟩
         replace H : (some (t141, y151, t145, t148)) = some (r1, r2, r3, r4) := by first | (rw [hy151]; with_reducible exact H) | (have H2_ := (Option.bind_some _ _).symm.trans H; rw [hy151]; with_reducible exact H2_) | (have H2_ := (Option.bind_some _ _).symm.trans H; with_reducible exact H2_) | with_reducible exact H | (rw [hy151]; exact H) | exact H
         have Ny151 := qM hy151
         clear hy151
         simp only [Option.some.injEq, Prod.mk.injEq] at H
         obtain ⟨rfl, rfl, rfl, rfl⟩ := H
         have hnb65 := NB135_136.out
         have hnc65 := NB136_135.out
         have hnb66 := NB135_137.out
         have hnc66 := NB137_135.out
         have hcz67_0 : wc.cell? ⟨gb135, 0, none⟩ = some (.int .i64 a0_0) := (zC BK135.out 0).trans rfl
         have hcz67_1 : wc.cell? ⟨gb135, 1, none⟩ = some (.slice A0_1 l0_1.length c0_1) := (zC BK135.out 1).trans rfl
         have hcz67_2 : wc.cell? ⟨gb135, 2, none⟩ = some (.slice A0_2 l0_2.length c0_2) := (zC BK135.out 2).trans rfl
         have hcz67_3 : wc.cell? ⟨gb135, 3, none⟩ = some (.int .i64 a0_3) := (zC BK135.out 3).trans rfl
         have hfz67_0 := zF BK135.out 0
         have hfz67_1 := zF BK135.out 1
         have hfz67_2 := zF BK135.out 2
         have hfz67_3 := zF BK135.out 3
         go_wp2_with (first | ((with_reducible refine gate_callee (f := 55) rfl ?_); refine goesL_ (some 26) rfl rfl Try.func55 (by kernel_rfl) rfl #[.agg #[.int .i64 a0_0, .slice A0_1 l0_1.length c0_1, .slice A0_2 l0_2.length c0_2, .int .i64 a0_3]] rfl (by (try simp only [List.map_toArray, List.map_cons, List.map_nil]); first | done | rfl | (simp only [List.length_drop, List.length_take]; rfl)) ?_; (with_reducible refine (spec_l6Copy.calls a0_0 _ _ l0_1 _ _ l0_2 a0_3 t141 t142 t145 t148 _ ?side1 ?side2 ?side3 ?side4 A36.out).mono ?_); (case side1 => repeat (first | exact (Kd.C_below HR0_1.out HB.out) | (with_reducible refine Kd.C_alloc ?_ _) | (with_reducible refine Kd.C_drewN ?_ _) | (with_reducible refine Kd.C_drew ?_))); (case side2 => exact HC0_1.out); (case side3 => repeat (first | exact (Kd.C_below HR0_2.out HB.out) | (with_reducible refine Kd.C_alloc ?_ _) | (with_reducible refine Kd.C_drewN ?_ _) | (with_reducible refine Kd.C_drew ?_))); (case side4 => exact HC0_2.out); rintro e w68 ⟨v143, v146, rfl, ho0, ho1, hb⟩; refine ⟨_, rfl, ?_⟩; have n0_ := qM (Kd.R_lower ho0 (below_size (yb HB))); have n1_ := qM (Kd.R_lower ho1 (below_size (yb HB))); have n2_ := qM (blk_below (bz BK135) hb); have n3_ := qM (blk_below (bz BK136) hb); have n4_ := qM (blk_below (bz BK137) hb); have n5_ := qM (below_step (yb HB) hb); clear BK135 BK136 BK137 HB; revert n0_ n1_ n2_ n3_ n4_ n5_; intro HO144 HO147 BK135 BK136 BK137 HB; (try clear hb); (try clear hb2); (try clear hk); (try clear hi); (try clear ho0); (try clear ho1)) | ((with_reducible refine gate_dst (N := 9) rfl ?_); (try (refine gate_guard (by rfl) ?_; dsimp only)); refine box_event ?hg (N := 9) ?hd (cs := #[.int .i64 0, .slice none 0 0, .slice none 0 0, .int .i64 0]) (t := 30) ?hr ?_; (case hd => rfl); (case hg => rfl); (case hr => first | (go_simp; done) | (go_simp; rfl)); intro gb149 hg w69 hbox hb; have n0_ := qM (Kd.R_below (qz HO144) hb); have n1_ := qM (Kd.R_below (qz HO147) hb); have n2_ := qM (blk_below (bz BK135) hb); have n3_ := qM (blk_below (bz BK136) hb); have n4_ := qM (blk_below (bz BK137) hb); have n5_ := qM (below_step (yb HB) hb); have n6_ := qM (hbox); have n7_ := qM ((by rw [hg]; exact (below_size (yb HB)) : w.heap.size ≤ gb149)); have n8_ := qM ((by rw [hg]; exact (below_size (yb HB)) : w.heap.size ≤ gb149)); have n9_ := qM ((by rw [hg]; exact Nat.ne_of_lt (blk_lt (bz BK135)) : gb135 ≠ gb149)); have n10_ := qM ((by rw [hg]; exact Nat.ne_of_gt (blk_lt (bz BK135)) : gb149 ≠ gb135)); have n11_ := qM ((by rw [hg]; exact Nat.ne_of_lt (blk_lt (bz BK136)) : gb136 ≠ gb149)); have n12_ := qM ((by rw [hg]; exact Nat.ne_of_gt (blk_lt (bz BK136)) : gb149 ≠ gb136)); have n13_ := qM ((by rw [hg]; exact Nat.ne_of_lt (blk_lt (bz BK137)) : gb137 ≠ gb149)); have n14_ := qM ((by rw [hg]; exact Nat.ne_of_gt (blk_lt (bz BK137)) : gb149 ≠ gb137)); clear HO144 HO147 BK135 BK136 BK137 HB; revert n0_ n1_ n2_ n3_ n4_ n5_ n6_ n7_ n8_ n9_ n10_ n11_ n12_ n13_ n14_; intro HO144 HO147 BK135 BK136 BK137 HB BK149 GW149 GE149 NB135_149 NB149_135 NB136_149 NB149_136 NB137_149 NB149_137; clear hb hbox hg; have hnb70 := NB149_135.out; have hnc70 := NB135_149.out; have hnb71 := NB149_136.out; have hnc71 := NB136_149.out; have hnb72 := NB149_137.out; have hnc72 := NB137_149.out; have hcz73_0 : w69.cell? ⟨gb149, 0, none⟩ = some (.int .i64 0) := (zC BK149.out 0).trans rfl; have hcz73_1 : w69.cell? ⟨gb149, 1, none⟩ = some (.slice none 0 0) := (zC BK149.out 1).trans rfl; have hcz73_2 : w69.cell? ⟨gb149, 2, none⟩ = some (.slice none 0 0) := (zC BK149.out 2).trans rfl; have hcz73_3 : w69.cell? ⟨gb149, 3, none⟩ = some (.int .i64 0) := (zC BK149.out 3).trans rfl; have hfz73_0 := zF BK149.out 0; have hfz73_1 := zF BK149.out 1; have hfz73_2 := zF BK149.out 2; have hfz73_3 := zF BK149.out 3; obtain ⟨Ao74, co74, eo74⟩ := Kd.R_slice HO144.out; subst eo74; obtain ⟨Ao75, co75, eo75⟩ := Kd.R_slice HO147.out; subst eo75) | ((with_reducible refine gate_store (t := 30) (p := 9) rfl ?_); refine store_event (t := 30) (p := 9) (v := ?vo_w76) (w1 := ((((w69.setCell ⟨gb149, 0, none⟩ (.int .i64 t141)).setCell ⟨gb149, 1, none⟩ (.slice Ao74 t142.length co74)).setCell ⟨gb149, 2, none⟩ (.slice Ao75 t145.length co75)).setCell ⟨gb149, 3, none⟩ (.int .i64 t148))) ?hg ?ho ?hn ?hr ?_; (case ho => rfl); (case hg => rfl); (case hn => rfl); (case hr => first | (go_simp; done) | (go_simp; rfl)); intro w76 hw; have n0_ : Aside0 (Kd.R (Kd.int .i64) 3 w76 w.heap.size (fun k_ => some k_ ≠ (.slice Ao75 t145.length co75 : Value).ownBlock) (.slice Ao74 t142.length co74) t142) := ⟨(by rw [hw]; exact (by (with_reducible repeat (first | apply qA | apply qN | apply qD)); exact Kd.R_mono (qF (p := ⟨gb149, 3, none⟩) (qF (p := ⟨gb149, 2, none⟩) (qF (p := ⟨gb149, 1, none⟩) (qF (p := ⟨gb149, 0, none⟩) (Kd.R_types HO144.out BK149.out (by decide)) (fun _ hk => hk.2) (.int .i64 t141)) (fun _ hk => hk.2) (.slice Ao74 t142.length co74)) (fun _ hk => hk.2) (.slice Ao75 t145.length co75)) (fun _ hk => hk.2) (.int .i64 t148)) (fun _ hk => hk.1)))⟩; have n1_ : Aside0 (Kd.R (Kd.int .i64) 3 w76 w.heap.size (fun k_ => some k_ ≠ (.slice Ao74 t142.length co74 : Value).ownBlock) (.slice Ao75 t145.length co75) t145) := ⟨(by rw [hw]; exact (by (with_reducible repeat (first | apply qA | apply qN | apply qD)); exact Kd.R_mono (qF (p := ⟨gb149, 3, none⟩) (qF (p := ⟨gb149, 2, none⟩) (qF (p := ⟨gb149, 1, none⟩) (qF (p := ⟨gb149, 0, none⟩) (Kd.R_types HO147.out BK149.out (by decide)) (fun _ hk => hk.2) (.int .i64 t141)) (fun _ hk => hk.2) (.slice Ao74 t142.length co74)) (fun _ hk => hk.2) (.slice Ao75 t145.length co75)) (fun _ hk => hk.2) (.int .i64 t148)) (fun _ hk => hk.1)))⟩; have n2_ : Aside0 (w76.heap[gb135]? = some (.cells #[.int .i64 a0_0, .slice A0_1 l0_1.length c0_1, .slice A0_2 l0_2.length c0_2, .int .i64 a0_3] 30 (0, 0))) := ⟨(by rw [hw]; exact (by (with_reducible repeat (first | refine zN ?_ _ | refine zD ?_ | refine zA ?_ _)); refine blk_far ?_ NB135_149.out _; (with_reducible repeat (first | refine zN ?_ _ | refine zD ?_ | refine zA ?_ _)); refine blk_far ?_ NB135_149.out _; (with_reducible repeat (first | refine zN ?_ _ | refine zD ?_ | refine zA ?_ _)); refine blk_far ?_ NB135_149.out _; (with_reducible repeat (first | refine zN ?_ _ | refine zD ?_ | refine zA ?_ _)); refine blk_far ?_ NB135_149.out _; (with_reducible repeat (first | refine zN ?_ _ | refine zD ?_ | refine zA ?_ _)); exact BK135.out))⟩; have n3_ : Aside0 (w76.heap[gb136]? = some (.cells #[.int .i64 a1_0, .int .i64 a1_1, .slice A1_2 l1_2.length c1_2, .int .i64 a1_3, .int .i64 a1_4, .int .i64 a1_5] 33 (0, 0))) := ⟨(by rw [hw]; exact (by (with_reducible repeat (first | refine zN ?_ _ | refine zD ?_ | refine zA ?_ _)); refine blk_far ?_ NB136_149.out _; (with_reducible repeat (first | refine zN ?_ _ | refine zD ?_ | refine zA ?_ _)); refine blk_far ?_ NB136_149.out _; (with_reducible repeat (first | refine zN ?_ _ | refine zD ?_ | refine zA ?_ _)); refine blk_far ?_ NB136_149.out _; (with_reducible repeat (first | refine zN ?_ _ | refine zD ?_ | refine zA ?_ _)); refine blk_far ?_ NB136_149.out _; (with_reducible repeat (first | refine zN ?_ _ | refine zD ?_ | refine zA ?_ _)); exact BK136.out))⟩; have n4_ : Aside0 (w76.heap[gb137]? = some (.cells #[.int .i64 0, .slice none 0 0, .slice none 0 0, .int .i64 0] 30 (0, 0))) := ⟨(by rw [hw]; exact (by (with_reducible repeat (first | refine zN ?_ _ | refine zD ?_ | refine zA ?_ _)); refine blk_far ?_ NB137_149.out _; (with_reducible repeat (first | refine zN ?_ _ | refine zD ?_ | refine zA ?_ _)); refine blk_far ?_ NB137_149.out _; (with_reducible repeat (first | refine zN ?_ _ | refine zD ?_ | refine zA ?_ _)); refine blk_far ?_ NB137_149.out _; (with_reducible repeat (first | refine zN ?_ _ | refine zD ?_ | refine zA ?_ _)); refine blk_far ?_ NB137_149.out _; (with_reducible repeat (first | refine zN ?_ _ | refine zD ?_ | refine zA ?_ _)); exact BK137.out))⟩; have n5_ : Aside0 (w76.heap[gb149]? = some (.cells #[.int .i64 t141, .slice Ao74 t142.length co74, .slice Ao75 t145.length co75, .int .i64 t148] 30 (0, 0))) := ⟨(by rw [hw]; exact (by (with_reducible repeat (first | refine zN ?_ _ | refine zD ?_ | refine zA ?_ _)); refine blk_put (cs := #[.int .i64 t141, .slice Ao74 t142.length co74, .slice Ao75 t145.length co75, .int .i64 0]) ?_ 3 _ rfl; (with_reducible repeat (first | refine zN ?_ _ | refine zD ?_ | refine zA ?_ _)); refine blk_put (cs := #[.int .i64 t141, .slice Ao74 t142.length co74, .slice none 0 0, .int .i64 0]) ?_ 2 _ rfl; (with_reducible repeat (first | refine zN ?_ _ | refine zD ?_ | refine zA ?_ _)); refine blk_put (cs := #[.int .i64 t141, .slice none 0 0, .slice none 0 0, .int .i64 0]) ?_ 1 _ rfl; (with_reducible repeat (first | refine zN ?_ _ | refine zD ?_ | refine zA ?_ _)); refine blk_put (cs := #[.int .i64 0, .slice none 0 0, .slice none 0 0, .int .i64 0]) ?_ 0 _ rfl; (with_reducible repeat (first | refine zN ?_ _ | refine zD ?_ | refine zA ?_ _)); exact BK149.out))⟩; have n6_ : Aside0 (Below w.heap.size w w76) := ⟨(by rw [hw]; exact (yb HB))⟩; clear hw HO144 HO147 BK135 BK136 BK137 BK149 HB; revert n0_ n1_ n2_ n3_ n4_ n5_ n6_; intro HO144 HO147 BK135 BK136 BK137 BK149 HB; have hcz77_0 : w76.cell? ⟨gb149, 0, none⟩ = some (.int .i64 t141) := (zC BK149.out 0).trans rfl; have hcz77_1 : w76.cell? ⟨gb149, 1, none⟩ = some (.slice Ao74 t142.length co74) := (zC BK149.out 1).trans rfl; have hcz77_2 : w76.cell? ⟨gb149, 2, none⟩ = some (.slice Ao75 t145.length co75) := (zC BK149.out 2).trans rfl; have hcz77_3 : w76.cell? ⟨gb149, 3, none⟩ = some (.int .i64 t148) := (zC BK149.out 3).trans rfl; have hfz77_0 := zF BK149.out 0; have hfz77_1 := zF BK149.out 1; have hfz77_2 := zF BK149.out 2; have hfz77_3 := zF BK149.out 3; have hnb78 := NB136_137.out; have hnc78 := NB137_136.out; have hcz79_0 : w76.cell? ⟨gb136, 0, none⟩ = some (.int .i64 a1_0) := (zC BK136.out 0).trans rfl; have hcz79_1 : w76.cell? ⟨gb136, 1, none⟩ = some (.int .i64 a1_1) := (zC BK136.out 1).trans rfl; have hcz79_2 : w76.cell? ⟨gb136, 2, none⟩ = some (.slice A1_2 l1_2.length c1_2) := (zC BK136.out 2).trans rfl; have hcz79_3 : w76.cell? ⟨gb136, 3, none⟩ = some (.int .i64 a1_3) := (zC BK136.out 3).trans rfl; have hcz79_4 : w76.cell? ⟨gb136, 4, none⟩ = some (.int .i64 a1_4) := (zC BK136.out 4).trans rfl; have hcz79_5 : w76.cell? ⟨gb136, 5, none⟩ = some (.int .i64 a1_5) := (zC BK136.out 5).trans rfl; have hfz79_0 := zF BK136.out 0; have hfz79_1 := zF BK136.out 1; have hfz79_2 := zF BK136.out 2; have hfz79_3 := zF BK136.out 3; have hfz79_4 := zF BK136.out 4; have hfz79_5 := zF BK136.out 5; have p64 : 0 ≤ (a1_4 : Int) := of_decide_eq_true (by first | (with_reducible assumption) | assumption); have q64 : (a1_4 : Int) < ((t142.length : Int) : Int) := of_decide_eq_true (by first | (with_reducible assumption) | assumption); obtain ⟨go64, co64, eo64, gb64, gl64, cl64, HG64⟩ := Kd.R_form HO144.out (by omega); (first | cases eo64 | (injection eo64 with ea_ en_ ec_; (first | subst ea_ | (injection ea_ with ea_; subst ea_)); subst ec_; clear en_)); have GB64 := qM gb64; have GG64 := qM HG64; clear gb64 gl64 HG64; obtain ⟨hx64_0, hf64_0⟩ := Kd.R_celln 0 HO144.out (a1_4 : Int) p64 q64; replace p64 := eq_true p64; replace q64 := eq_true q64; obtain ⟨hy80_, hz80_⟩ := Kd.R_celln 0 HO144.out (a1_4 : Int) (of_decide_eq_true (by first | (with_reducible assumption) | assumption)) (of_decide_eq_true (by first | (with_reducible assumption) | assumption)); have HP80 := Kd.R_putg HO144.out (a1_4 : Int) 0) | ((with_reducible refine gate_store (t := 3) (p := 41) rfl ?_); refine store_event (t := 3) (p := 41) (v := ?vo_w81) (w1 := (w76.setCell ⟨go64, (a1_4 : Int).toNat, none⟩ (.int .i64 0))) ?hg ?ho ?hn ?hr ?_; (case ho => rfl); (case hg => rfl); (case hn => rfl); (case hr => first | (go_simp; done) | (go_simp; rfl)); intro w81 hw; have hg : w76.grownBy w81 (some go64) := (by rw [hw]; exact HP80.2); have hp_ : Kd.R (Kd.int .i64) 3 w81 w.heap.size (fun k_ => some k_ ≠ (.slice Ao75 t145.length co75 : Value).ownBlock) (.slice (some ⟨go64, 0, none⟩) t142.length co74) y151 := (by rw [hw, Ny151.out]; exact HP80.1); clear HP80; have n0_ := qM (blk_grown (g := gb135) (o := .cells #[.int .i64 a0_0, .slice A0_1 l0_1.length c0_1, .slice A0_2 l0_2.length c0_2, .int .i64 a0_3] 30 (0, 0)) (bz BK135) hg (Kd.R_ne HO144.out BK135.out (by decide))); have n1_ := qM (blk_grown (g := gb136) (o := .cells #[.int .i64 a1_0, .int .i64 a1_1, .slice A1_2 l1_2.length c1_2, .int .i64 a1_3, .int .i64 a1_4, .int .i64 a1_5] 33 (0, 0)) (bz BK136) hg (Kd.R_ne HO144.out BK136.out (by decide))); have n2_ := qM (blk_grown (g := gb137) (o := .cells #[.int .i64 0, .slice none 0 0, .slice none 0 0, .int .i64 0] 30 (0, 0)) (bz BK137) hg (Kd.R_ne HO144.out BK137.out (by decide))); have n3_ := qM (hp_); have n4_ := qM (Kd.R_after (v := (.slice (some ⟨go64, 0, none⟩) t142.length co74)) (v1 := (.slice (some ⟨go64, 0, none⟩) t142.length co74)) (ok := (fun _ => True)) (by (with_reducible repeat (first | apply qA | apply qN | apply qD)); exact Kd.R_mono HO147.out (fun _ hk => ⟨trivial, hk⟩)) hg (.inl rfl)); have n5_ := qM (blk_grown (g := gb149) (o := .cells #[.int .i64 t141, .slice (some ⟨go64, 0, none⟩) t142.length co74, .slice Ao75 t145.length co75, .int .i64 t148] 30 (0, 0)) (bz BK149) hg (Kd.R_ne HO144.out BK149.out (by decide))); have n6_ := qM ((by rw [hw]; exact yS (HB.out) GB64.out : Below w.heap.size w w81)); clear BK135 BK136 BK137 HO144 HO147 BK149 HB; revert n0_ n1_ n2_ n3_ n4_ n5_ n6_; intro BK135 BK136 BK137 HO144 HO147 BK149 HB; clear hg hw hp_; have hcz82_0 : w81.cell? ⟨gb149, 0, none⟩ = some (.int .i64 t141) := (zC BK149.out 0).trans rfl; have hcz82_1 : w81.cell? ⟨gb149, 1, none⟩ = some (.slice (some ⟨go64, 0, none⟩) t142.length co74) := (zC BK149.out 1).trans rfl; have hcz82_2 : w81.cell? ⟨gb149, 2, none⟩ = some (.slice Ao75 t145.length co75) := (zC BK149.out 2).trans rfl; have hcz82_3 : w81.cell? ⟨gb149, 3, none⟩ = some (.int .i64 t148) := (zC BK149.out 3).trans rfl; have hfz82_0 := zF BK149.out 0; have hfz82_1 := zF BK149.out 1; have hfz82_2 := zF BK149.out 2; have hfz82_3 := zF BK149.out 3; have hcz83_0 : w81.cell? ⟨gb137, 0, none⟩ = some (.int .i64 0) := (zC BK137.out 0).trans rfl; have hcz83_1 : w81.cell? ⟨gb137, 1, none⟩ = some (.slice none 0 0) := (zC BK137.out 1).trans rfl; have hcz83_2 : w81.cell? ⟨gb137, 2, none⟩ = some (.slice none 0 0) := (zC BK137.out 2).trans rfl; have hcz83_3 : w81.cell? ⟨gb137, 3, none⟩ = some (.int .i64 0) := (zC BK137.out 3).trans rfl; have hfz83_0 := zF BK137.out 0; have hfz83_1 := zF BK137.out 1; have hfz83_2 := zF BK137.out 2; have hfz83_3 := zF BK137.out 3))
         refine bodyPost_ret (results_cell_row rfl _ _ gb137 30 #[.int .i64 t141, .slice (some ⟨go64, 0, none⟩) t142.length co74, .slice Ao75 t145.length co75, .int .i64 t148] (0, 0) _ rfl (by (with_reducible repeat (first | refine zN ?_ _ | refine zD ?_ | refine zA ?_ _)); refine blk_put (cs := #[.int .i64 t141, .slice (some ⟨go64, 0, none⟩) t142.length co74, .slice Ao75 t145.length co75, .int .i64 0]) ?_ 3 _ rfl; (with_reducible repeat (first | refine zN ?_ _ | refine zD ?_ | refine zA ?_ _)); refine blk_put (cs := #[.int .i64 t141, .slice (some ⟨go64, 0, none⟩) t142.length co74, .slice none 0 0, .int .i64 0]) ?_ 2 _ rfl; (with_reducible repeat (first | refine zN ?_ _ | refine zD ?_ | refine zA ?_ _)); refine blk_put (cs := #[.int .i64 t141, .slice none 0 0, .slice none 0 0, .int .i64 0]) ?_ 1 _ rfl; (with_reducible repeat (first | refine zN ?_ _ | refine zD ?_ | refine zA ?_ _)); refine blk_put (cs := #[.int .i64 0, .slice none 0 0, .slice none 0 0, .int .i64 0]) ?_ 0 _ rfl; (with_reducible repeat (first | refine zN ?_ _ | refine zD ?_ | refine zA ?_ _)); exact BK137.out) Try.underlying30 rfl (by kernel_rfl)) rfl ?_
         exact ⟨_, _, by first | rfl | (simp [errW_none, errW_some] <;> rfl) | (simp [*, errW_none, errW_some] <;> rfl), by (with_reducible repeat (first | apply qA | apply qN | apply qD)); exact Kd.R_mono (qF (p := ⟨gb137, 3, none⟩) (qF (p := ⟨gb137, 2, none⟩) (qF (p := ⟨gb137, 1, none⟩) (qF (p := ⟨gb137, 0, none⟩) (Kd.R_types HO144.out BK137.out (by decide)) (fun _ hk => hk.2) (.int .i64 t141)) (fun _ hk => hk.2) (.slice (some ⟨go64, 0, none⟩) t142.length co74)) (fun _ hk => hk.2) (.slice Ao75 t145.length co75)) (fun _ hk => hk.2) (.int .i64 t148)) (fun _ hk => hk.1), by (with_reducible repeat (first | apply qA | apply qN | apply qD)); exact Kd.R_mono (qF (p := ⟨gb137, 3, none⟩) (qF (p := ⟨gb137, 2, none⟩) (qF (p := ⟨gb137, 1, none⟩) (qF (p := ⟨gb137, 0, none⟩) (Kd.R_types HO147.out BK137.out (by decide)) (fun _ hk => hk.2) (.int .i64 t141)) (fun _ hk => hk.2) (.slice (some ⟨go64, 0, none⟩) t142.length co74)) (fun _ hk => hk.2) (.slice Ao75 t145.length co75)) (fun _ hk => hk.2) (.int .i64 t148)) (fun _ hk => hk.1.2), by repeat (first | (with_reducible first | exact HB.out | apply yA | apply yN | apply yD | refine yS ?_ GE135.out | refine yS ?_ GE136.out | refine yS ?_ GE137.out | refine yS ?_ GE149.out) | exact HB.out)⟩
        ·rw [if_neg c63] at H
         exact absurd H (by simp)
       ·rw [if_neg c62] at H
        exact absurd H (by simp)
     ·rw [if_neg c38] at H
      have c38b0 : (a1_0 == 1) = false := beq_eq_false_iff_ne.mpr c38
      have c38b1 : (a1_0 != 1) = true := bne_iff_ne.mpr c38
      by_cases c84 : a1_0 = 2
      ·rw [if_pos c84] at H
       have c84b0 : (a1_0 == 2) = true := beq_iff_eq.mpr c84
       have c84b1 : (a1_0 != 2) = false := bne_eq_false_iff_eq.mpr c84
       clear c84
       have HC85 := qM H
       clear H
       have hnb86 := NB135_136.out
       have hnc86 := NB136_135.out
       have hnb87 := NB135_137.out
       have hnc87 := NB137_135.out
       have hcz88_0 : wc.cell? ⟨gb135, 0, none⟩ = some (.int .i64 a0_0) := (zC BK135.out 0).trans rfl
       have hcz88_1 : wc.cell? ⟨gb135, 1, none⟩ = some (.slice A0_1 l0_1.length c0_1) := (zC BK135.out 1).trans rfl
       have hcz88_2 : wc.cell? ⟨gb135, 2, none⟩ = some (.slice A0_2 l0_2.length c0_2) := (zC BK135.out 2).trans rfl
       have hcz88_3 : wc.cell? ⟨gb135, 3, none⟩ = some (.int .i64 a0_3) := (zC BK135.out 3).trans rfl
       have hfz88_0 := zF BK135.out 0
       have hfz88_1 := zF BK135.out 1
       have hfz88_2 := zF BK135.out 2
       have hfz88_3 := zF BK135.out 3
       go_upto_region 13 with (first | ((with_reducible refine gate_callee (f := 55) rfl ?_); refine goesL_ (some 26) rfl rfl Try.func55 (by kernel_rfl) rfl #[.agg #[.int .i64 a0_0, .slice A0_1 l0_1.length c0_1, .slice A0_2 l0_2.length c0_2, .int .i64 a0_3]] rfl (by (try simp only [List.map_toArray, List.map_cons, List.map_nil]); first | done | rfl | (simp only [List.length_drop, List.length_take]; rfl)) ?_; (with_reducible refine (spec_l6Copy.calls a0_0 _ _ l0_1 _ _ l0_2 a0_3 t141 t142 t145 t148 _ ?side1 ?side2 ?side3 ?side4 A36.out).mono ?_); (case side1 => repeat (first | exact (Kd.C_below HR0_1.out HB.out) | (with_reducible refine Kd.C_alloc ?_ _) | (with_reducible refine Kd.C_drewN ?_ _) | (with_reducible refine Kd.C_drew ?_))); (case side2 => exact HC0_1.out); (case side3 => repeat (first | exact (Kd.C_below HR0_2.out HB.out) | (with_reducible refine Kd.C_alloc ?_ _) | (with_reducible refine Kd.C_drewN ?_ _) | (with_reducible refine Kd.C_drew ?_))); (case side4 => exact HC0_2.out); rintro e w89 ⟨v143, v146, rfl, ho0, ho1, hb⟩; refine ⟨_, rfl, ?_⟩; have n0_ := qM (Kd.R_lower ho0 (below_size (yb HB))); have n1_ := qM (Kd.R_lower ho1 (below_size (yb HB))); have n2_ := qM (blk_below (bz BK135) hb); have n3_ := qM (blk_below (bz BK136) hb); have n4_ := qM (blk_below (bz BK137) hb); have n5_ := qM (below_step (yb HB) hb); clear BK135 BK136 BK137 HB; revert n0_ n1_ n2_ n3_ n4_ n5_; intro HO144 HO147 BK135 BK136 BK137 HB; (try clear hb); (try clear hb2); (try clear hk); (try clear hi); (try clear ho0); (try clear ho1)) | ((with_reducible refine gate_dst (N := 9) rfl ?_); (try (refine gate_guard (by rfl) ?_; dsimp only)); refine box_event ?hg (N := 9) ?hd (cs := #[.int .i64 0, .slice none 0 0, .slice none 0 0, .int .i64 0]) (t := 30) ?hr ?_; (case hd => rfl); (case hg => rfl); (case hr => first | (go_simp; done) | (go_simp; rfl)); intro gb149 hg w90 hbox hb; have n0_ := qM (Kd.R_below (qz HO144) hb); have n1_ := qM (Kd.R_below (qz HO147) hb); have n2_ := qM (blk_below (bz BK135) hb); have n3_ := qM (blk_below (bz BK136) hb); have n4_ := qM (blk_below (bz BK137) hb); have n5_ := qM (below_step (yb HB) hb); have n6_ := qM (hbox); have n7_ := qM ((by rw [hg]; exact (below_size (yb HB)) : w.heap.size ≤ gb149)); have n8_ := qM ((by rw [hg]; exact (below_size (yb HB)) : w.heap.size ≤ gb149)); have n9_ := qM ((by rw [hg]; exact Nat.ne_of_lt (blk_lt (bz BK135)) : gb135 ≠ gb149)); have n10_ := qM ((by rw [hg]; exact Nat.ne_of_gt (blk_lt (bz BK135)) : gb149 ≠ gb135)); have n11_ := qM ((by rw [hg]; exact Nat.ne_of_lt (blk_lt (bz BK136)) : gb136 ≠ gb149)); have n12_ := qM ((by rw [hg]; exact Nat.ne_of_gt (blk_lt (bz BK136)) : gb149 ≠ gb136)); have n13_ := qM ((by rw [hg]; exact Nat.ne_of_lt (blk_lt (bz BK137)) : gb137 ≠ gb149)); have n14_ := qM ((by rw [hg]; exact Nat.ne_of_gt (blk_lt (bz BK137)) : gb149 ≠ gb137)); clear HO144 HO147 BK135 BK136 BK137 HB; revert n0_ n1_ n2_ n3_ n4_ n5_ n6_ n7_ n8_ n9_ n10_ n11_ n12_ n13_ n14_; intro HO144 HO147 BK135 BK136 BK137 HB BK149 GW149 GE149 NB135_149 NB149_135 NB136_149 NB149_136 NB137_149 NB149_137; clear hb hbox hg; have hnb91 := NB149_135.out; have hnc91 := NB135_149.out; have hnb92 := NB149_136.out; have hnc92 := NB136_149.out; have hnb93 := NB149_137.out; have hnc93 := NB137_149.out; have hcz94_0 : w90.cell? ⟨gb149, 0, none⟩ = some (.int .i64 0) := (zC BK149.out 0).trans rfl; have hcz94_1 : w90.cell? ⟨gb149, 1, none⟩ = some (.slice none 0 0) := (zC BK149.out 1).trans rfl; have hcz94_2 : w90.cell? ⟨gb149, 2, none⟩ = some (.slice none 0 0) := (zC BK149.out 2).trans rfl; have hcz94_3 : w90.cell? ⟨gb149, 3, none⟩ = some (.int .i64 0) := (zC BK149.out 3).trans rfl; have hfz94_0 := zF BK149.out 0; have hfz94_1 := zF BK149.out 1; have hfz94_2 := zF BK149.out 2; have hfz94_3 := zF BK149.out 3; obtain ⟨Ao95, co95, eo95⟩ := Kd.R_slice HO144.out; subst eo95; obtain ⟨Ao96, co96, eo96⟩ := Kd.R_slice HO147.out; subst eo96; have hnb97 := NB136_137.out; have hnc97 := NB137_136.out; have hcz98_0 : w90.cell? ⟨gb136, 0, none⟩ = some (.int .i64 a1_0) := (zC BK136.out 0).trans rfl; have hcz98_1 : w90.cell? ⟨gb136, 1, none⟩ = some (.int .i64 a1_1) := (zC BK136.out 1).trans rfl; have hcz98_2 : w90.cell? ⟨gb136, 2, none⟩ = some (.slice A1_2 l1_2.length c1_2) := (zC BK136.out 2).trans rfl; have hcz98_3 : w90.cell? ⟨gb136, 3, none⟩ = some (.int .i64 a1_3) := (zC BK136.out 3).trans rfl; have hcz98_4 : w90.cell? ⟨gb136, 4, none⟩ = some (.int .i64 a1_4) := (zC BK136.out 4).trans rfl; have hcz98_5 : w90.cell? ⟨gb136, 5, none⟩ = some (.int .i64 a1_5) := (zC BK136.out 5).trans rfl; have hfz98_0 := zF BK136.out 0; have hfz98_1 := zF BK136.out 1; have hfz98_2 := zF BK136.out 2; have hfz98_3 := zF BK136.out 3; have hfz98_4 := zF BK136.out 4; have hfz98_5 := zF BK136.out 5))
       (try simp only [Act.put, List.setIfInBounds_toArray, List.set_cons_zero, List.set_cons_succ])
       go_cut [52] (fun v52 wc => ∃ (kq : Nat) (x52_84 : Bool), v52 = .bool x52_84 ∧ Aside0 (spec_VmGive.j1 kq l2 a3 0 x52_84 a1_0 a1_1 l1_2 a1_3 a1_4 a1_5 t141 t142 t145 t148 = some (r1, r2, r3, r4)) ∧ Aside0 (kq ≤ kj4) ∧ Aside0 (Kd.R (Kd.int .i64) 3 wc w.heap.size (fun k_ => some k_ ≠ ((.slice Ao96 t145.length co96) : Value).ownBlock) (.slice Ao95 t142.length co95) t142) ∧ Aside0 (Kd.R (Kd.int .i64) 3 wc w.heap.size (fun k_ => some k_ ≠ ((.slice Ao95 t142.length co95) : Value).ownBlock) (.slice Ao96 t145.length co96) t145) ∧ Aside0 (wc.heap[gb135]? = some (.cells #[.int .i64 a0_0, (.slice A0_1 l0_1.length c0_1), (.slice A0_2 l0_2.length c0_2), .int .i64 a0_3] 30 (0, 0))) ∧ Aside0 (wc.heap[gb136]? = some (.cells #[.int .i64 a1_0, .int .i64 a1_1, (.slice A1_2 l1_2.length c1_2), .int .i64 a1_3, .int .i64 a1_4, .int .i64 a1_5] 33 (0, 0))) ∧ Aside0 (wc.heap[gb137]? = some (.cells #[.int .i64 0, (.slice none 0 0), (.slice none 0 0), .int .i64 0] 30 (0, 0))) ∧ Aside0 (wc.heap[gb149]? = some (.cells #[.int .i64 t141, (.slice Ao95 t142.length co95), (.slice Ao96 t145.length co96), .int .i64 t148] 30 (0, 0))) ∧ Aside0 (Below w.heap.size w wc))
       case first =>
        have H := HC85.out
        clear HC85
        by_cases c99 : a3 = true
        ·subst c99
         have H1 : (spec_VmGive.j1 kj4 l2 true 0 (decide ((wrap64 (a1_3 + (l2.length : Int))) > 8)) a1_0 a1_1 l1_2 a1_3 a1_4 a1_5 t141 t142 t145 t148) = some (r1, r2, r3, r4) := by rw [if_pos rfl] at H; exact H
         clear H
         have H := H1
         clear H1
         have H' := qM H
         clear H
         have hnb100 := NB136_135.out
         have hnc100 := NB135_136.out
         have hnb101 := NB136_137.out
         have hnc101 := NB137_136.out
         have hnb102 := NB136_149.out
         have hnc102 := NB149_136.out
         have hcz103_0 : w90.cell? ⟨gb136, 0, none⟩ = some (.int .i64 a1_0) := (zC BK136.out 0).trans rfl
         have hcz103_1 : w90.cell? ⟨gb136, 1, none⟩ = some (.int .i64 a1_1) := (zC BK136.out 1).trans rfl
         have hcz103_2 : w90.cell? ⟨gb136, 2, none⟩ = some (.slice A1_2 l1_2.length c1_2) := (zC BK136.out 2).trans rfl
         have hcz103_3 : w90.cell? ⟨gb136, 3, none⟩ = some (.int .i64 a1_3) := (zC BK136.out 3).trans rfl
         have hcz103_4 : w90.cell? ⟨gb136, 4, none⟩ = some (.int .i64 a1_4) := (zC BK136.out 4).trans rfl
         have hcz103_5 : w90.cell? ⟨gb136, 5, none⟩ = some (.int .i64 a1_5) := (zC BK136.out 5).trans rfl
         have hfz103_0 := zF BK136.out 0
         have hfz103_1 := zF BK136.out 1
         have hfz103_2 := zF BK136.out 2
         have hfz103_3 := zF BK136.out 3
         have hfz103_4 := zF BK136.out 4
         have hfz103_5 := zF BK136.out 5
         go_wp2
         go_meet
         case rel => exact ⟨_, (decide ((wrap64 (a1_3 + (l2.length : Int))) > 8)), (by first | rfl | (simp; done) | (simp [*]; done)), H', ⟨by have := HJ4.out; first | omega | exact Nat.le_refl _⟩, ⟨by (with_reducible repeat (first | apply qA | apply qN | apply qD)); exact Kd.R_mono (qF (p := ⟨gb149, 3, none⟩) (qF (p := ⟨gb149, 2, none⟩) (qF (p := ⟨gb149, 1, none⟩) (qF (p := ⟨gb149, 0, none⟩) (Kd.R_types HO144.out BK149.out (by decide)) (fun _ hk => hk.2) (.int .i64 t141)) (fun _ hk => hk.2) (.slice Ao95 t142.length co95)) (fun _ hk => hk.2) (.slice Ao96 t145.length co96)) (fun _ hk => hk.2) (.int .i64 t148)) (fun _ hk => hk.1)⟩, ⟨by (with_reducible repeat (first | apply qA | apply qN | apply qD)); exact Kd.R_mono (qF (p := ⟨gb149, 3, none⟩) (qF (p := ⟨gb149, 2, none⟩) (qF (p := ⟨gb149, 1, none⟩) (qF (p := ⟨gb149, 0, none⟩) (Kd.R_types HO147.out BK149.out (by decide)) (fun _ hk => hk.2) (.int .i64 t141)) (fun _ hk => hk.2) (.slice Ao95 t142.length co95)) (fun _ hk => hk.2) (.slice Ao96 t145.length co96)) (fun _ hk => hk.2) (.int .i64 t148)) (fun _ hk => hk.1)⟩, ⟨by (with_reducible repeat (first | refine zN ?_ _ | refine zD ?_ | refine zA ?_ _)); refine blk_far ?_ NB135_149.out _; (with_reducible repeat (first | refine zN ?_ _ | refine zD ?_ | refine zA ?_ _)); refine blk_far ?_ NB135_149.out _; (with_reducible repeat (first | refine zN ?_ _ | refine zD ?_ | refine zA ?_ _)); refine blk_far ?_ NB135_149.out _; (with_reducible repeat (first | refine zN ?_ _ | refine zD ?_ | refine zA ?_ _)); refine blk_far ?_ NB135_149.out _; (with_reducible repeat (first | refine zN ?_ _ | refine zD ?_ | refine zA ?_ _)); exact BK135.out⟩, ⟨by (with_reducible repeat (first | refine zN ?_ _ | refine zD ?_ | refine zA ?_ _)); refine blk_far ?_ NB136_149.out _; (with_reducible repeat (first | refine zN ?_ _ | refine zD ?_ | refine zA ?_ _)); refine blk_far ?_ NB136_149.out _; (with_reducible repeat (first | refine zN ?_ _ | refine zD ?_ | refine zA ?_ _)); refine blk_far ?_ NB136_149.out _; (with_reducible repeat (first | refine zN ?_ _ | refine zD ?_ | refine zA ?_ _)); refine blk_far ?_ NB136_149.out _; (with_reducible repeat (first | refine zN ?_ _ | refine zD ?_ | refine zA ?_ _)); exact BK136.out⟩, ⟨by (with_reducible repeat (first | refine zN ?_ _ | refine zD ?_ | refine zA ?_ _)); refine blk_far ?_ NB137_149.out _; (with_reducible repeat (first | refine zN ?_ _ | refine zD ?_ | refine zA ?_ _)); refine blk_far ?_ NB137_149.out _; (with_reducible repeat (first | refine zN ?_ _ | refine zD ?_ | refine zA ?_ _)); refine blk_far ?_ NB137_149.out _; (with_reducible repeat (first | refine zN ?_ _ | refine zD ?_ | refine zA ?_ _)); refine blk_far ?_ NB137_149.out _; (with_reducible repeat (first | refine zN ?_ _ | refine zD ?_ | refine zA ?_ _)); exact BK137.out⟩, ⟨by (with_reducible repeat (first | refine zN ?_ _ | refine zD ?_ | refine zA ?_ _)); refine blk_put (cs := #[.int .i64 t141, .slice Ao95 t142.length co95, .slice Ao96 t145.length co96, .int .i64 0]) ?_ 3 _ rfl; (with_reducible repeat (first | refine zN ?_ _ | refine zD ?_ | refine zA ?_ _)); refine blk_put (cs := #[.int .i64 t141, .slice Ao95 t142.length co95, .slice none 0 0, .int .i64 0]) ?_ 2 _ rfl; (with_reducible repeat (first | refine zN ?_ _ | refine zD ?_ | refine zA ?_ _)); refine blk_put (cs := #[.int .i64 t141, .slice none 0 0, .slice none 0 0, .int .i64 0]) ?_ 1 _ rfl; (with_reducible repeat (first | refine zN ?_ _ | refine zD ?_ | refine zA ?_ _)); refine blk_put (cs := #[.int .i64 0, .slice none 0 0, .slice none 0 0, .int .i64 0]) ?_ 0 _ rfl; (with_reducible repeat (first | refine zN ?_ _ | refine zD ?_ | refine zA ?_ _)); exact BK149.out⟩, ⟨by repeat (first | (with_reducible first | exact HB.out | apply yA | apply yN | apply yD | refine yS ?_ GE135.out | refine yS ?_ GE136.out | refine yS ?_ GE137.out | refine yS ?_ GE149.out) | exact HB.out)⟩⟩
        ·replace c99 := Bool.eq_false_iff.mpr c99
         subst c99
         have H1 : (spec_VmGive.j1 kj4 l2 false 0 false a1_0 a1_1 l1_2 a1_3 a1_4 a1_5 t141 t142 t145 t148) = some (r1, r2, r3, r4) := by rw [if_neg (show ¬ (false = true) by decide)] at H; exact H
         clear H
         have H := H1
         clear H1
         have H' := qM H
         clear H
         go_wp2
         go_meet
         case rel => exact ⟨_, (false), (by first | rfl | (simp; done) | (simp [*]; done)), H', ⟨by have := HJ4.out; first | omega | exact Nat.le_refl _⟩, ⟨by (with_reducible repeat (first | apply qA | apply qN | apply qD)); exact Kd.R_mono (qF (p := ⟨gb149, 3, none⟩) (qF (p := ⟨gb149, 2, none⟩) (qF (p := ⟨gb149, 1, none⟩) (qF (p := ⟨gb149, 0, none⟩) (Kd.R_types HO144.out BK149.out (by decide)) (fun _ hk => hk.2) (.int .i64 t141)) (fun _ hk => hk.2) (.slice Ao95 t142.length co95)) (fun _ hk => hk.2) (.slice Ao96 t145.length co96)) (fun _ hk => hk.2) (.int .i64 t148)) (fun _ hk => hk.1)⟩, ⟨by (with_reducible repeat (first | apply qA | apply qN | apply qD)); exact Kd.R_mono (qF (p := ⟨gb149, 3, none⟩) (qF (p := ⟨gb149, 2, none⟩) (qF (p := ⟨gb149, 1, none⟩) (qF (p := ⟨gb149, 0, none⟩) (Kd.R_types HO147.out BK149.out (by decide)) (fun _ hk => hk.2) (.int .i64 t141)) (fun _ hk => hk.2) (.slice Ao95 t142.length co95)) (fun _ hk => hk.2) (.slice Ao96 t145.length co96)) (fun _ hk => hk.2) (.int .i64 t148)) (fun _ hk => hk.1)⟩, ⟨by (with_reducible repeat (first | refine zN ?_ _ | refine zD ?_ | refine zA ?_ _)); refine blk_far ?_ NB135_149.out _; (with_reducible repeat (first | refine zN ?_ _ | refine zD ?_ | refine zA ?_ _)); refine blk_far ?_ NB135_149.out _; (with_reducible repeat (first | refine zN ?_ _ | refine zD ?_ | refine zA ?_ _)); refine blk_far ?_ NB135_149.out _; (with_reducible repeat (first | refine zN ?_ _ | refine zD ?_ | refine zA ?_ _)); refine blk_far ?_ NB135_149.out _; (with_reducible repeat (first | refine zN ?_ _ | refine zD ?_ | refine zA ?_ _)); exact BK135.out⟩, ⟨by (with_reducible repeat (first | refine zN ?_ _ | refine zD ?_ | refine zA ?_ _)); refine blk_far ?_ NB136_149.out _; (with_reducible repeat (first | refine zN ?_ _ | refine zD ?_ | refine zA ?_ _)); refine blk_far ?_ NB136_149.out _; (with_reducible repeat (first | refine zN ?_ _ | refine zD ?_ | refine zA ?_ _)); refine blk_far ?_ NB136_149.out _; (with_reducible repeat (first | refine zN ?_ _ | refine zD ?_ | refine zA ?_ _)); refine blk_far ?_ NB136_149.out _; (with_reducible repeat (first | refine zN ?_ _ | refine zD ?_ | refine zA ?_ _)); exact BK136.out⟩, ⟨by (with_reducible repeat (first | refine zN ?_ _ | refine zD ?_ | refine zA ?_ _)); refine blk_far ?_ NB137_149.out _; (with_reducible repeat (first | refine zN ?_ _ | refine zD ?_ | refine zA ?_ _)); refine blk_far ?_ NB137_149.out _; (with_reducible repeat (first | refine zN ?_ _ | refine zD ?_ | refine zA ?_ _)); refine blk_far ?_ NB137_149.out _; (with_reducible repeat (first | refine zN ?_ _ | refine zD ?_ | refine zA ?_ _)); refine blk_far ?_ NB137_149.out _; (with_reducible repeat (first | refine zN ?_ _ | refine zD ?_ | refine zA ?_ _)); exact BK137.out⟩, ⟨by (with_reducible repeat (first | refine zN ?_ _ | refine zD ?_ | refine zA ?_ _)); refine blk_put (cs := #[.int .i64 t141, .slice Ao95 t142.length co95, .slice Ao96 t145.length co96, .int .i64 0]) ?_ 3 _ rfl; (with_reducible repeat (first | refine zN ?_ _ | refine zD ?_ | refine zA ?_ _)); refine blk_put (cs := #[.int .i64 t141, .slice Ao95 t142.length co95, .slice none 0 0, .int .i64 0]) ?_ 2 _ rfl; (with_reducible repeat (first | refine zN ?_ _ | refine zD ?_ | refine zA ?_ _)); refine blk_put (cs := #[.int .i64 t141, .slice none 0 0, .slice none 0 0, .int .i64 0]) ?_ 1 _ rfl; (with_reducible repeat (first | refine zN ?_ _ | refine zD ?_ | refine zA ?_ _)); refine blk_put (cs := #[.int .i64 0, .slice none 0 0, .slice none 0 0, .int .i64 0]) ?_ 0 _ rfl; (with_reducible repeat (first | refine zN ?_ _ | refine zD ?_ | refine zA ?_ _)); exact BK149.out⟩, ⟨by repeat (first | (with_reducible first | exact HB.out | apply yA | apply yN | apply yD | refine yS ?_ GE135.out | refine yS ?_ GE136.out | refine yS ?_ GE137.out | refine yS ?_ GE149.out) | exact HB.out)⟩⟩
       case rest =>
        clear HC85
        try clear c1
        try clear c2
        try clear p2
        try clear c3
        try clear c4
        try clear p4
        try clear q4
        try clear hx4
        try clear hf4
        try clear c5
        try clear c6
        try clear p6
        try clear q6
        try clear hx6
        try clear hf6
        try clear c7
        try clear c8
        try clear c9
        try clear c10
        try clear c12
        try clear c13
        try clear c14
        try clear c15
        try clear c18
        try clear c21
        try clear c22
        try clear c25
        try clear c27
        try clear c28
        try clear c29
        try clear c32
        try clear c33
        try clear c34
        try clear c37
        try clear c37b0
        try clear c37b1
        try clear c38
        try clear c38b0
        try clear c38b1
        try clear c39
        try clear c40
        try clear c40b0
        try clear c41
        try clear c41b0
        try clear p42
        try clear q42
        try clear hx42
        try clear hf42
        try clear c43
        try clear c44
        try clear c48
        try clear c49
        try clear c50
        try clear c55
        try clear c56
        try clear c62
        try clear c62b0
        try clear c63
        try clear c63b0
        try clear p64
        try clear q64
        try clear hx64
        try clear hf64
        try clear c65
        try clear c66
        try clear c70
        try clear c71
        try clear c72
        try clear c78
        try clear c84
        try clear c84b0
        try clear c84b1
        try clear c86
        try clear c87
        try clear c91
        try clear c92
        try clear c93
        try clear c97
        try clear c99
        try clear c100
        try clear c101
        try clear c102
        try clear hcz103_0
        try clear hcz103_1
        try clear hcz103_2
        try clear hcz103_3
        try clear hcz103_4
        try clear hcz103_5
        try clear hcz16_0
        try clear hcz16_1
        try clear hcz16_2
        try clear hcz16_3
        try clear hcz19_0
        try clear hcz19_1
        try clear hcz19_2
        try clear hcz19_3
        try clear hcz19_4
        try clear hcz19_5
        try clear hcz23_0
        try clear hcz23_1
        try clear hcz23_2
        try clear hcz23_3
        try clear hcz26_0
        try clear hcz26_1
        try clear hcz26_2
        try clear hcz26_3
        try clear hcz26_4
        try clear hcz26_5
        try clear hcz30_0
        try clear hcz30_1
        try clear hcz30_2
        try clear hcz30_3
        try clear hcz35_0
        try clear hcz35_1
        try clear hcz35_2
        try clear hcz35_3
        try clear hcz45_0
        try clear hcz45_1
        try clear hcz45_2
        try clear hcz45_3
        try clear hcz51_0
        try clear hcz51_1
        try clear hcz51_2
        try clear hcz51_3
        try clear hcz55_0
        try clear hcz55_1
        try clear hcz55_2
        try clear hcz55_3
        try clear hcz57_0
        try clear hcz57_1
        try clear hcz57_2
        try clear hcz57_3
        try clear hcz57_4
        try clear hcz57_5
        try clear hcz60_0
        try clear hcz60_1
        try clear hcz60_2
        try clear hcz60_3
        try clear hcz61_0
        try clear hcz61_1
        try clear hcz61_2
        try clear hcz61_3
        try clear hcz67_0
        try clear hcz67_1
        try clear hcz67_2
        try clear hcz67_3
        try clear hcz73_0
        try clear hcz73_1
        try clear hcz73_2
        try clear hcz73_3
        try clear hcz77_0
        try clear hcz77_1
        try clear hcz77_2
        try clear hcz77_3
        try clear hcz79_0
        try clear hcz79_1
        try clear hcz79_2
        try clear hcz79_3
        try clear hcz79_4
        try clear hcz79_5
        try clear hcz82_0
        try clear hcz82_1
        try clear hcz82_2
        try clear hcz82_3
        try clear hcz83_0
        try clear hcz83_1
        try clear hcz83_2
        try clear hcz83_3
        try clear hcz88_0
        try clear hcz88_1
        try clear hcz88_2
        try clear hcz88_3
        try clear hcz94_0
        try clear hcz94_1
        try clear hcz94_2
        try clear hcz94_3
        try clear hcz98_0
        try clear hcz98_1
        try clear hcz98_2
        try clear hcz98_3
        try clear hcz98_4
        try clear hcz98_5
        try clear hfz103_0
        try clear hfz103_1
        try clear hfz103_2
        try clear hfz103_3
        try clear hfz103_4
        try clear hfz103_5
        try clear hfz16_0
        try clear hfz16_1
        try clear hfz16_2
        try clear hfz16_3
        try clear hfz19_0
        try clear hfz19_1
        try clear hfz19_2
        try clear hfz19_3
        try clear hfz19_4
        try clear hfz19_5
        try clear hfz23_0
        try clear hfz23_1
        try clear hfz23_2
        try clear hfz23_3
        try clear hfz26_0
        try clear hfz26_1
        try clear hfz26_2
        try clear hfz26_3
        try clear hfz26_4
        try clear hfz26_5
        try clear hfz30_0
        try clear hfz30_1
        try clear hfz30_2
        try clear hfz30_3
        try clear hfz35_0
        try clear hfz35_1
        try clear hfz35_2
        try clear hfz35_3
        try clear hfz45_0
        try clear hfz45_1
        try clear hfz45_2
        try clear hfz45_3
        try clear hfz51_0
        try clear hfz51_1
        try clear hfz51_2
        try clear hfz51_3
        try clear hfz55_0
        try clear hfz55_1
        try clear hfz55_2
        try clear hfz55_3
        try clear hfz57_0
        try clear hfz57_1
        try clear hfz57_2
        try clear hfz57_3
        try clear hfz57_4
        try clear hfz57_5
        try clear hfz60_0
        try clear hfz60_1
        try clear hfz60_2
        try clear hfz60_3
        try clear hfz61_0
        try clear hfz61_1
        try clear hfz61_2
        try clear hfz61_3
        try clear hfz67_0
        try clear hfz67_1
        try clear hfz67_2
        try clear hfz67_3
        try clear hfz73_0
        try clear hfz73_1
        try clear hfz73_2
        try clear hfz73_3
        try clear hfz77_0
        try clear hfz77_1
        try clear hfz77_2
        try clear hfz77_3
        try clear hfz79_0
        try clear hfz79_1
        try clear hfz79_2
        try clear hfz79_3
        try clear hfz79_4
        try clear hfz79_5
        try clear hfz82_0
        try clear hfz82_1
        try clear hfz82_2
        try clear hfz82_3
        try clear hfz83_0
        try clear hfz83_1
        try clear hfz83_2
        try clear hfz83_3
        try clear hfz88_0
        try clear hfz88_1
        try clear hfz88_2
        try clear hfz88_3
        try clear hfz94_0
        try clear hfz94_1
        try clear hfz94_2
        try clear hfz94_3
        try clear hfz98_0
        try clear hfz98_1
        try clear hfz98_2
        try clear hfz98_3
        try clear hfz98_4
        try clear hfz98_5
        try clear hx42_0
        try clear hx64_0
        try clear p2
        try clear p42
        try clear p64
        try clear q42
        try clear q64
        obtain ⟨kq, x52_84, rfl, HA, HJ84, HO_150001, HO_150002, BK135, BK136, BK137, BK149, HB⟩ := hcut
        cases kq with
        | zero => exact absurd HA.out (by simp [spec_VmGive.j1])
        | succ kj84 =>
         have H := HA.out
         clear HA
         simp only [spec_VmGive.j1] at H
         by_cases c104 : x52_84 = true
         ·subst c104
          have H1 : ((spec_l6Fall.f t141 t142 t145 t148).bind fun bt152 => (some (bt152.1, bt152.2.1, bt152.2.2.1, bt152.2.2.2))) = some (r1, r2, r3, r4) := by rw [if_pos rfl] at H; exact H
          clear H
          have H := H1
          clear H1
          replace H := Option.bind_eq_some_iff.mp H
          obtain ⟨⟨t152, t153, t156, t159⟩, A1050, H⟩ := H
          replace H : (some (t152, t153, t156, t159)) = some (r1, r2, r3, r4) := H
          have A105 := qM A1050
          clear A1050
          simp only [Option.some.injEq, Prod.mk.injEq] at H
          obtain ⟨rfl, rfl, rfl, rfl⟩ := H
          have hnb106 := NB149_135.out
          have hnc106 := NB135_149.out
          have hnb107 := NB149_136.out
          have hnc107 := NB136_149.out
          have hnb108 := NB149_137.out
          have hnc108 := NB137_149.out
          have hcz109_0 : wc.cell? ⟨gb149, 0, none⟩ = some (.int .i64 t141) := (zC BK149.out 0).trans rfl
          have hcz109_1 : wc.cell? ⟨gb149, 1, none⟩ = some (.slice Ao95 t142.length co95) := (zC BK149.out 1).trans rfl
          have hcz109_2 : wc.cell? ⟨gb149, 2, none⟩ = some (.slice Ao96 t145.length co96) := (zC BK149.out 2).trans rfl
          have hcz109_3 : wc.cell? ⟨gb149, 3, none⟩ = some (.int .i64 t148) := (zC BK149.out 3).trans rfl
          have hfz109_0 := zF BK149.out 0
          have hfz109_1 := zF BK149.out 1
          have hfz109_2 := zF BK149.out 2
          have hfz109_3 := zF BK149.out 3
          go_wp2_with (first | ((with_reducible refine gate_callee (f := 56) rfl ?_); refine goesL_ (some 54) rfl rfl Try.func56 (by kernel_rfl) rfl #[.agg #[.int .i64 t141, .slice Ao95 t142.length co95, .slice Ao96 t145.length co96, .int .i64 t148]] rfl (by (try simp only [List.map_toArray, List.map_cons, List.map_nil]); first | done | rfl | (simp only [List.length_drop, List.length_take]; rfl)) ?_; (with_reducible refine (spec_l6Fall.calls t141 (fun k_ => some k_ = (.slice Ao95 t142.length co95 : Value).ownBlock) (.slice Ao95 t142.length co95) t142 (fun k_ => some k_ = (.slice Ao96 t145.length co96 : Value).ownBlock) (.slice Ao96 t145.length co96) t145 t148 t152 t153 t156 t159 w _ ?side1 ?side2 ?side3 ?side4 ?side5 A105.out).mono ?_); (case side1 => repeat (first | (with_reducible first | exact HB.out | apply yA | apply yN | apply yD | refine yS ?_ GE135.out | refine yS ?_ GE136.out | refine yS ?_ GE137.out | refine yS ?_ GE149.out) | exact HB.out)); (case side2 => exact Kd.R_tight rfl HO_150001.out); (case side3 => exact fun k_ e_ => (HO_150001.out.1 k_ e_.symm)); (case side4 => exact Kd.R_tight rfl HO_150002.out); (case side5 => exact fun k_ e_ => (HO_150002.out.1 k_ e_.symm)); rintro e w110 ⟨v154, v157, rfl, ho0, ho1, hb, hkp⟩; refine ⟨_, rfl, ?_⟩; have n0_ := qM (blk_kept (bz BK135) hkp (fun hs_ => Or.elim hs_ (fun e_ => (fun e_ => (Kd.R_ne HO_150001.out BK135.out (by decide)) e_) e_) (fun e_ => (fun e_ => (Kd.R_ne HO_150002.out BK135.out (by decide)) e_) e_))); have n1_ := qM (blk_kept (bz BK136) hkp (fun hs_ => Or.elim hs_ (fun e_ => (fun e_ => (Kd.R_ne HO_150001.out BK136.out (by decide)) e_) e_) (fun e_ => (fun e_ => (Kd.R_ne HO_150002.out BK136.out (by decide)) e_) e_))); have n2_ := qM (blk_kept (bz BK137) hkp (fun hs_ => Or.elim hs_ (fun e_ => (fun e_ => (Kd.R_ne HO_150001.out BK137.out (by decide)) e_) e_) (fun e_ => (fun e_ => (Kd.R_ne HO_150002.out BK137.out (by decide)) e_) e_))); have n3_ := qM (blk_kept (bz BK149) hkp (fun hs_ => Or.elim hs_ (fun e_ => (fun e_ => (Kd.R_ne HO_150001.out BK149.out (by decide)) e_) e_) (fun e_ => (fun e_ => (Kd.R_ne HO_150002.out BK149.out (by decide)) e_) e_))); have n4_ := qM (Kd.R_mono (ok' := fun k_ => some k_ ≠ (v157 : Value).ownBlock) ho0 (fun k_ hk_ => hk_.2)); have n5_ := qM (Kd.R_mono (ok' := fun k_ => some k_ ≠ (v154 : Value).ownBlock) ho1 (fun k_ hk_ => hk_.2)); have n6_ := qM (hb); clear BK135 BK136 BK137 BK149 HB HO_150001 HO_150002; revert n0_ n1_ n2_ n3_ n4_ n5_ n6_; intro BK135 BK136 BK137 BK149 HO155 HO158 HB; (try clear hb); (try clear hkp); (try clear ho0); (try clear ho1); have hnb111 := NB137_135.out; have hnc111 := NB135_137.out; have hnb112 := NB137_136.out; have hnc112 := NB136_137.out; have hcz113_0 : w110.cell? ⟨gb137, 0, none⟩ = some (.int .i64 0) := (zC BK137.out 0).trans rfl; have hcz113_1 : w110.cell? ⟨gb137, 1, none⟩ = some (.slice none 0 0) := (zC BK137.out 1).trans rfl; have hcz113_2 : w110.cell? ⟨gb137, 2, none⟩ = some (.slice none 0 0) := (zC BK137.out 2).trans rfl; have hcz113_3 : w110.cell? ⟨gb137, 3, none⟩ = some (.int .i64 0) := (zC BK137.out 3).trans rfl; have hfz113_0 := zF BK137.out 0; have hfz113_1 := zF BK137.out 1; have hfz113_2 := zF BK137.out 2; have hfz113_3 := zF BK137.out 3; obtain ⟨Ao114, co114, eo114⟩ := Kd.R_slice HO155.out; subst eo114; obtain ⟨Ao115, co115, eo115⟩ := Kd.R_slice HO158.out; subst eo115))
          refine bodyPost_ret (results_cell_row rfl _ _ gb137 30 #[.int .i64 t152, .slice Ao114 t153.length co114, .slice Ao115 t156.length co115, .int .i64 t159] (0, 0) _ rfl (by (with_reducible repeat (first | refine zN ?_ _ | refine zD ?_ | refine zA ?_ _)); refine blk_put (cs := #[.int .i64 t152, .slice Ao114 t153.length co114, .slice Ao115 t156.length co115, .int .i64 0]) ?_ 3 _ rfl; (with_reducible repeat (first | refine zN ?_ _ | refine zD ?_ | refine zA ?_ _)); refine blk_put (cs := #[.int .i64 t152, .slice Ao114 t153.length co114, .slice none 0 0, .int .i64 0]) ?_ 2 _ rfl; (with_reducible repeat (first | refine zN ?_ _ | refine zD ?_ | refine zA ?_ _)); refine blk_put (cs := #[.int .i64 t152, .slice none 0 0, .slice none 0 0, .int .i64 0]) ?_ 1 _ rfl; (with_reducible repeat (first | refine zN ?_ _ | refine zD ?_ | refine zA ?_ _)); refine blk_put (cs := #[.int .i64 0, .slice none 0 0, .slice none 0 0, .int .i64 0]) ?_ 0 _ rfl; (with_reducible repeat (first | refine zN ?_ _ | refine zD ?_ | refine zA ?_ _)); exact BK137.out) Try.underlying30 rfl (by kernel_rfl)) rfl ?_
          exact ⟨_, _, by first | rfl | (simp [errW_none, errW_some] <;> rfl) | (simp [*, errW_none, errW_some] <;> rfl), by (with_reducible repeat (first | apply qA | apply qN | apply qD)); exact Kd.R_mono (qF (p := ⟨gb137, 3, none⟩) (qF (p := ⟨gb137, 2, none⟩) (qF (p := ⟨gb137, 1, none⟩) (qF (p := ⟨gb137, 0, none⟩) (Kd.R_types HO155.out BK137.out (by decide)) (fun _ hk => hk.2) (.int .i64 t152)) (fun _ hk => hk.2) (.slice Ao114 t153.length co114)) (fun _ hk => hk.2) (.slice Ao115 t156.length co115)) (fun _ hk => hk.2) (.int .i64 t159)) (fun _ hk => hk.1), by (with_reducible repeat (first | apply qA | apply qN | apply qD)); exact Kd.R_mono (qF (p := ⟨gb137, 3, none⟩) (qF (p := ⟨gb137, 2, none⟩) (qF (p := ⟨gb137, 1, none⟩) (qF (p := ⟨gb137, 0, none⟩) (Kd.R_types HO158.out BK137.out (by decide)) (fun _ hk => hk.2) (.int .i64 t152)) (fun _ hk => hk.2) (.slice Ao114 t153.length co114)) (fun _ hk => hk.2) (.slice Ao115 t156.length co115)) (fun _ hk => hk.2) (.int .i64 t159)) (fun _ hk => hk.1), by repeat (first | (with_reducible first | exact HB.out | apply yA | apply yN | apply yD | refine yS ?_ GE135.out | refine yS ?_ GE136.out | refine yS ?_ GE137.out | refine yS ?_ GE149.out) | exact HB.out)⟩
         ·replace c104 := Bool.eq_false_iff.mpr c104
          subst c104
          have H1 : (if a3 = true then ((spec_l6Lay.f kj84 t141 t142 t145 t148 a1_3 l2).bind fun bt160 => (if 0 ≤ a1_4 then (if a1_4 < (bt160.2.1.length : Int) then (some (bt160.1, (bt160.2.1.set (a1_4 : Int).toNat (wrap64 ((l2.length : Int) + 1))), bt160.2.2.1, bt160.2.2.2)) else (none)) else (none))) else (if 0 ≤ a1_4 then (if a1_4 < (t142.length : Int) then (some (t141, (t142.set (a1_4 : Int).toNat 0), t145, t148)) else (none)) else (none))) = some (r1, r2, r3, r4) := by rw [if_neg (show ¬ (false = true) by decide)] at H; exact H
          clear H
          have H := H1
          clear H1
          by_cases c116 : a3 = true
          ·subst c116
           have H1 : ((spec_l6Lay.f kj84 t141 t142 t145 t148 a1_3 l2).bind fun bt160 => (if 0 ≤ a1_4 then (if a1_4 < (bt160.2.1.length : Int) then (some (bt160.1, (bt160.2.1.set (a1_4 : Int).toNat (wrap64 ((l2.length : Int) + 1))), bt160.2.2.1, bt160.2.2.2)) else (none)) else (none))) = some (r1, r2, r3, r4) := by rw [if_pos rfl] at H; exact H
           clear H
           have H := H1
           clear H1
           replace H := Option.bind_eq_some_iff.mp H
           obtain ⟨⟨t160, t161, t164, t167⟩, A1170, H⟩ := H
           replace H : (if 0 ≤ a1_4 then (if a1_4 < (t161.length : Int) then (some (t160, (t161.set (a1_4 : Int).toNat (wrap64 ((l2.length : Int) + 1))), t164, t167)) else (none)) else (none)) = some (r1, r2, r3, r4) := H
           have A117 := qM A1170
           clear A1170
           by_cases c118 : 0 ≤ a1_4
           ·rw [if_pos c118] at H
            have c118b0 : decide (0 ≤ a1_4) = true := decide_eq_true c118
            clear c118
            by_cases c119 : a1_4 < (t161.length : Int)
            ·rw [if_pos c119] at H
             have c119b0 : decide (a1_4 < (t161.length : Int)) = true := decide_eq_true c119
             clear c119
             obtain ⟨y168, hy168⟩ : ∃ y_ : List Int, y_ = (t161.set (a1_4 : Int).toNat (wrap64 ((l2.length : Int) + 1))) := ⟨_, rfl⟩
             replace H : (some (t160, y168, t164, t167)) = some (r1, r2, r3, r4) := by first | (rw [hy168]; with_reducible exact H) | (have H2_ := (Option.bind_some _ _).symm.trans H; rw [hy168]; with_reducible exact H2_) | (have H2_ := (Option.bind_some _ _).symm.trans H; with_reducible exact H2_) | with_reducible exact H | (rw [hy168]; exact H) | exact H
             have Ny168 := qM hy168
             clear hy168
             simp only [Option.some.injEq, Prod.mk.injEq] at H
             obtain ⟨rfl, rfl, rfl, rfl⟩ := H
             have hnb121 := NB149_135.out
             have hnc121 := NB135_149.out
             have hnb122 := NB149_136.out
             have hnc122 := NB136_149.out
             have hnb123 := NB149_137.out
             have hnc123 := NB137_149.out
             have hcz124_0 : wc.cell? ⟨gb149, 0, none⟩ = some (.int .i64 t141) := (zC BK149.out 0).trans rfl
             have hcz124_1 : wc.cell? ⟨gb149, 1, none⟩ = some (.slice Ao95 t142.length co95) := (zC BK149.out 1).trans rfl
             have hcz124_2 : wc.cell? ⟨gb149, 2, none⟩ = some (.slice Ao96 t145.length co96) := (zC BK149.out 2).trans rfl
             have hcz124_3 : wc.cell? ⟨gb149, 3, none⟩ = some (.int .i64 t148) := (zC BK149.out 3).trans rfl
             have hfz124_0 := zF BK149.out 0
             have hfz124_1 := zF BK149.out 1
             have hfz124_2 := zF BK149.out 2
             have hfz124_3 := zF BK149.out 3
             have hnb125 := NB136_135.out
             have hnc125 := NB135_136.out
             have hnb126 := NB136_137.out
             have hnc126 := NB137_136.out
             have hcz127_0 : wc.cell? ⟨gb136, 0, none⟩ = some (.int .i64 a1_0) := (zC BK136.out 0).trans rfl
             have hcz127_1 : wc.cell? ⟨gb136, 1, none⟩ = some (.int .i64 a1_1) := (zC BK136.out 1).trans rfl
             have hcz127_2 : wc.cell? ⟨gb136, 2, none⟩ = some (.slice A1_2 l1_2.length c1_2) := (zC BK136.out 2).trans rfl
             have hcz127_3 : wc.cell? ⟨gb136, 3, none⟩ = some (.int .i64 a1_3) := (zC BK136.out 3).trans rfl
             have hcz127_4 : wc.cell? ⟨gb136, 4, none⟩ = some (.int .i64 a1_4) := (zC BK136.out 4).trans rfl
             have hcz127_5 : wc.cell? ⟨gb136, 5, none⟩ = some (.int .i64 a1_5) := (zC BK136.out 5).trans rfl
             have hfz127_0 := zF BK136.out 0
             have hfz127_1 := zF BK136.out 1
             have hfz127_2 := zF BK136.out 2
             have hfz127_3 := zF BK136.out 3
             have hfz127_4 := zF BK136.out 4
             have hfz127_5 := zF BK136.out 5
             go_wp2_with (first | ((with_reducible refine gate_callee (f := 57) rfl ?_); refine goesL_ (some 63) rfl rfl Try.func57 (by kernel_rfl) rfl #[.agg #[.int .i64 t141, .slice Ao95 t142.length co95, .slice Ao96 t145.length co96, .int .i64 t148], .int .i64 a1_3, .slice A2 l2.length c2] rfl (by (try simp only [List.map_toArray, List.map_cons, List.map_nil]); first | done | rfl | (simp only [List.length_drop, List.length_take]; rfl)) ?_; (with_reducible refine (spec_l6Lay.calls kj84 t141 (fun k_ => some k_ = (.slice Ao95 t142.length co95 : Value).ownBlock) (.slice Ao95 t142.length co95) t142 (fun k_ => some k_ = (.slice Ao96 t145.length co96 : Value).ownBlock) (.slice Ao96 t145.length co96) t145 t148 a1_3 _ _ l2 t160 t161 t164 t167 w _ ?side1 ?side2 ?side3 ?side4 ?side5 ?side6 ?side7 A117.out).mono ?_); (case side1 => repeat (first | (with_reducible first | exact HB.out | apply yA | apply yN | apply yD | refine yS ?_ GE135.out | refine yS ?_ GE136.out | refine yS ?_ GE137.out | refine yS ?_ GE149.out) | exact HB.out)); (case side2 => exact Kd.R_tight rfl HO_150001.out); (case side3 => exact fun k_ e_ => (HO_150001.out.1 k_ e_.symm)); (case side4 => exact Kd.R_tight rfl HO_150002.out); (case side5 => exact fun k_ e_ => (HO_150002.out.1 k_ e_.symm)); (case side6 => exact Kd.C_kept_came (Kd.heap_int .u8) HR2.out (yb HB) (fun k_ hs_ => Or.elim hs_ (fun e_ => (fun e_ => Kd.R_base HO_150001.out k_ e_.symm) e_) (fun e_ => (fun e_ => Kd.R_base HO_150002.out k_ e_.symm) e_))); (case side7 => exact HC2.out); rintro e w128 ⟨v162, v165, rfl, ho0, ho1, hb, hkp⟩; refine ⟨_, rfl, ?_⟩; have n0_ := qM (blk_kept (bz BK135) hkp (fun hs_ => Or.elim hs_ (fun e_ => (fun e_ => (Kd.R_ne HO_150001.out BK135.out (by decide)) e_) e_) (fun e_ => (fun e_ => (Kd.R_ne HO_150002.out BK135.out (by decide)) e_) e_))); have n1_ := qM (blk_kept (bz BK136) hkp (fun hs_ => Or.elim hs_ (fun e_ => (fun e_ => (Kd.R_ne HO_150001.out BK136.out (by decide)) e_) e_) (fun e_ => (fun e_ => (Kd.R_ne HO_150002.out BK136.out (by decide)) e_) e_))); have n2_ := qM (blk_kept (bz BK137) hkp (fun hs_ => Or.elim hs_ (fun e_ => (fun e_ => (Kd.R_ne HO_150001.out BK137.out (by decide)) e_) e_) (fun e_ => (fun e_ => (Kd.R_ne HO_150002.out BK137.out (by decide)) e_) e_))); have n3_ := qM (blk_kept (bz BK149) hkp (fun hs_ => Or.elim hs_ (fun e_ => (fun e_ => (Kd.R_ne HO_150001.out BK149.out (by decide)) e_) e_) (fun e_ => (fun e_ => (Kd.R_ne HO_150002.out BK149.out (by decide)) e_) e_))); have n4_ := qM (Kd.R_mono (ok' := fun k_ => some k_ ≠ (v165 : Value).ownBlock) ho0 (fun k_ hk_ => hk_.2)); have n5_ := qM (Kd.R_mono (ok' := fun k_ => some k_ ≠ (v162 : Value).ownBlock) ho1 (fun k_ hk_ => hk_.2)); have n6_ := qM (hb); clear BK135 BK136 BK137 BK149 HB HO_150001 HO_150002; revert n0_ n1_ n2_ n3_ n4_ n5_ n6_; intro BK135 BK136 BK137 BK149 HO163 HO166 HB; (try clear hb); (try clear hkp); (try clear ho0); (try clear ho1); have hcz129_0 : w128.cell? ⟨gb149, 0, none⟩ = some (.int .i64 t141) := (zC BK149.out 0).trans rfl; have hcz129_1 : w128.cell? ⟨gb149, 1, none⟩ = some (.slice Ao95 t142.length co95) := (zC BK149.out 1).trans rfl; have hcz129_2 : w128.cell? ⟨gb149, 2, none⟩ = some (.slice Ao96 t145.length co96) := (zC BK149.out 2).trans rfl; have hcz129_3 : w128.cell? ⟨gb149, 3, none⟩ = some (.int .i64 t148) := (zC BK149.out 3).trans rfl; have hfz129_0 := zF BK149.out 0; have hfz129_1 := zF BK149.out 1; have hfz129_2 := zF BK149.out 2; have hfz129_3 := zF BK149.out 3; obtain ⟨Ao130, co130, eo130⟩ := Kd.R_slice HO163.out; subst eo130; obtain ⟨Ao131, co131, eo131⟩ := Kd.R_slice HO166.out; subst eo131) | ((with_reducible refine gate_store (t := 30) (p := 9) rfl ?_); refine store_event (t := 30) (p := 9) (v := ?vo_w132) (w1 := ((((w128.setCell ⟨gb149, 0, none⟩ (.int .i64 t160)).setCell ⟨gb149, 1, none⟩ (.slice Ao130 t161.length co130)).setCell ⟨gb149, 2, none⟩ (.slice Ao131 t164.length co131)).setCell ⟨gb149, 3, none⟩ (.int .i64 t167))) ?hg ?ho ?hn ?hr ?_; (case ho => rfl); (case hg => rfl); (case hn => rfl); (case hr => first | (go_simp; done) | (go_simp; rfl)); intro w132 hw; have n0_ : Aside0 (Kd.R (Kd.int .i64) 3 w132 w.heap.size (fun k_ => some k_ ≠ (.slice Ao131 t164.length co131 : Value).ownBlock) (.slice Ao130 t161.length co130) t161) := ⟨(by rw [hw]; exact (by (with_reducible repeat (first | apply qA | apply qN | apply qD)); exact Kd.R_mono (qF (p := ⟨gb149, 3, none⟩) (qF (p := ⟨gb149, 2, none⟩) (qF (p := ⟨gb149, 1, none⟩) (qF (p := ⟨gb149, 0, none⟩) (Kd.R_types HO163.out BK149.out (by decide)) (fun _ hk => hk.2) (.int .i64 t160)) (fun _ hk => hk.2) (.slice Ao130 t161.length co130)) (fun _ hk => hk.2) (.slice Ao131 t164.length co131)) (fun _ hk => hk.2) (.int .i64 t167)) (fun _ hk => hk.1)))⟩; have n1_ : Aside0 (Kd.R (Kd.int .i64) 3 w132 w.heap.size (fun k_ => some k_ ≠ (.slice Ao130 t161.length co130 : Value).ownBlock) (.slice Ao131 t164.length co131) t164) := ⟨(by rw [hw]; exact (by (with_reducible repeat (first | apply qA | apply qN | apply qD)); exact Kd.R_mono (qF (p := ⟨gb149, 3, none⟩) (qF (p := ⟨gb149, 2, none⟩) (qF (p := ⟨gb149, 1, none⟩) (qF (p := ⟨gb149, 0, none⟩) (Kd.R_types HO166.out BK149.out (by decide)) (fun _ hk => hk.2) (.int .i64 t160)) (fun _ hk => hk.2) (.slice Ao130 t161.length co130)) (fun _ hk => hk.2) (.slice Ao131 t164.length co131)) (fun _ hk => hk.2) (.int .i64 t167)) (fun _ hk => hk.1)))⟩; have n2_ : Aside0 (w132.heap[gb135]? = some (.cells #[.int .i64 a0_0, .slice A0_1 l0_1.length c0_1, .slice A0_2 l0_2.length c0_2, .int .i64 a0_3] 30 (0, 0))) := ⟨(by rw [hw]; exact (by (with_reducible repeat (first | refine zN ?_ _ | refine zD ?_ | refine zA ?_ _)); refine blk_far ?_ NB135_149.out _; (with_reducible repeat (first | refine zN ?_ _ | refine zD ?_ | refine zA ?_ _)); refine blk_far ?_ NB135_149.out _; (with_reducible repeat (first | refine zN ?_ _ | refine zD ?_ | refine zA ?_ _)); refine blk_far ?_ NB135_149.out _; (with_reducible repeat (first | refine zN ?_ _ | refine zD ?_ | refine zA ?_ _)); refine blk_far ?_ NB135_149.out _; (with_reducible repeat (first | refine zN ?_ _ | refine zD ?_ | refine zA ?_ _)); exact BK135.out))⟩; have n3_ : Aside0 (w132.heap[gb136]? = some (.cells #[.int .i64 a1_0, .int .i64 a1_1, .slice A1_2 l1_2.length c1_2, .int .i64 a1_3, .int .i64 a1_4, .int .i64 a1_5] 33 (0, 0))) := ⟨(by rw [hw]; exact (by (with_reducible repeat (first | refine zN ?_ _ | refine zD ?_ | refine zA ?_ _)); refine blk_far ?_ NB136_149.out _; (with_reducible repeat (first | refine zN ?_ _ | refine zD ?_ | refine zA ?_ _)); refine blk_far ?_ NB136_149.out _; (with_reducible repeat (first | refine zN ?_ _ | refine zD ?_ | refine zA ?_ _)); refine blk_far ?_ NB136_149.out _; (with_reducible repeat (first | refine zN ?_ _ | refine zD ?_ | refine zA ?_ _)); refine blk_far ?_ NB136_149.out _; (with_reducible repeat (first | refine zN ?_ _ | refine zD ?_ | refine zA ?_ _)); exact BK136.out))⟩; have n4_ : Aside0 (w132.heap[gb137]? = some (.cells #[.int .i64 0, .slice none 0 0, .slice none 0 0, .int .i64 0] 30 (0, 0))) := ⟨(by rw [hw]; exact (by (with_reducible repeat (first | refine zN ?_ _ | refine zD ?_ | refine zA ?_ _)); refine blk_far ?_ NB137_149.out _; (with_reducible repeat (first | refine zN ?_ _ | refine zD ?_ | refine zA ?_ _)); refine blk_far ?_ NB137_149.out _; (with_reducible repeat (first | refine zN ?_ _ | refine zD ?_ | refine zA ?_ _)); refine blk_far ?_ NB137_149.out _; (with_reducible repeat (first | refine zN ?_ _ | refine zD ?_ | refine zA ?_ _)); refine blk_far ?_ NB137_149.out _; (with_reducible repeat (first | refine zN ?_ _ | refine zD ?_ | refine zA ?_ _)); exact BK137.out))⟩; have n5_ : Aside0 (w132.heap[gb149]? = some (.cells #[.int .i64 t160, .slice Ao130 t161.length co130, .slice Ao131 t164.length co131, .int .i64 t167] 30 (0, 0))) := ⟨(by rw [hw]; exact (by (with_reducible repeat (first | refine zN ?_ _ | refine zD ?_ | refine zA ?_ _)); refine blk_put (cs := #[.int .i64 t160, .slice Ao130 t161.length co130, .slice Ao131 t164.length co131, .int .i64 t148]) ?_ 3 _ rfl; (with_reducible repeat (first | refine zN ?_ _ | refine zD ?_ | refine zA ?_ _)); refine blk_put (cs := #[.int .i64 t160, .slice Ao130 t161.length co130, .slice Ao96 t145.length co96, .int .i64 t148]) ?_ 2 _ rfl; (with_reducible repeat (first | refine zN ?_ _ | refine zD ?_ | refine zA ?_ _)); refine blk_put (cs := #[.int .i64 t160, .slice Ao95 t142.length co95, .slice Ao96 t145.length co96, .int .i64 t148]) ?_ 1 _ rfl; (with_reducible repeat (first | refine zN ?_ _ | refine zD ?_ | refine zA ?_ _)); refine blk_put (cs := #[.int .i64 t141, .slice Ao95 t142.length co95, .slice Ao96 t145.length co96, .int .i64 t148]) ?_ 0 _ rfl; (with_reducible repeat (first | refine zN ?_ _ | refine zD ?_ | refine zA ?_ _)); exact BK149.out))⟩; have n6_ : Aside0 (Below w.heap.size w w132) := ⟨(by rw [hw]; exact (yb HB))⟩; clear hw HO163 HO166 BK135 BK136 BK137 BK149 HB; revert n0_ n1_ n2_ n3_ n4_ n5_ n6_; intro HO163 HO166 BK135 BK136 BK137 BK149 HB; have hcz133_0 : w132.cell? ⟨gb149, 0, none⟩ = some (.int .i64 t160) := (zC BK149.out 0).trans rfl; have hcz133_1 : w132.cell? ⟨gb149, 1, none⟩ = some (.slice Ao130 t161.length co130) := (zC BK149.out 1).trans rfl; have hcz133_2 : w132.cell? ⟨gb149, 2, none⟩ = some (.slice Ao131 t164.length co131) := (zC BK149.out 2).trans rfl; have hcz133_3 : w132.cell? ⟨gb149, 3, none⟩ = some (.int .i64 t167) := (zC BK149.out 3).trans rfl; have hfz133_0 := zF BK149.out 0; have hfz133_1 := zF BK149.out 1; have hfz133_2 := zF BK149.out 2; have hfz133_3 := zF BK149.out 3; have hcz134_0 : w132.cell? ⟨gb136, 0, none⟩ = some (.int .i64 a1_0) := (zC BK136.out 0).trans rfl; have hcz134_1 : w132.cell? ⟨gb136, 1, none⟩ = some (.int .i64 a1_1) := (zC BK136.out 1).trans rfl; have hcz134_2 : w132.cell? ⟨gb136, 2, none⟩ = some (.slice A1_2 l1_2.length c1_2) := (zC BK136.out 2).trans rfl; have hcz134_3 : w132.cell? ⟨gb136, 3, none⟩ = some (.int .i64 a1_3) := (zC BK136.out 3).trans rfl; have hcz134_4 : w132.cell? ⟨gb136, 4, none⟩ = some (.int .i64 a1_4) := (zC BK136.out 4).trans rfl; have hcz134_5 : w132.cell? ⟨gb136, 5, none⟩ = some (.int .i64 a1_5) := (zC BK136.out 5).trans rfl; have hfz134_0 := zF BK136.out 0; have hfz134_1 := zF BK136.out 1; have hfz134_2 := zF BK136.out 2; have hfz134_3 := zF BK136.out 3; have hfz134_4 := zF BK136.out 4; have hfz134_5 := zF BK136.out 5; have p120 : 0 ≤ (a1_4 : Int) := of_decide_eq_true (by first | (with_reducible assumption) | assumption); have q120 : (a1_4 : Int) < ((t161.length : Int) : Int) := of_decide_eq_true (by first | (with_reducible assumption) | assumption); obtain ⟨go120, co120, eo120, gb120, gl120, cl120, HG120⟩ := Kd.R_form HO163.out (by omega); (first | cases eo120 | (injection eo120 with ea_ en_ ec_; (first | subst ea_ | (injection ea_ with ea_; subst ea_)); subst ec_; clear en_)); have GB120 := qM gb120; have GG120 := qM HG120; clear gb120 gl120 HG120; obtain ⟨hx120_0, hf120_0⟩ := Kd.R_celln 0 HO163.out (a1_4 : Int) p120 q120; replace p120 := eq_true p120; replace q120 := eq_true q120; obtain ⟨hy135_, hz135_⟩ := Kd.R_celln 0 HO163.out (a1_4 : Int) (of_decide_eq_true (by first | (with_reducible assumption) | assumption)) (of_decide_eq_true (by first | (with_reducible assumption) | assumption)); have HP135 := Kd.R_putg HO163.out (a1_4 : Int) (wrap64 ((l2.length : Int) + 1))) | ((with_reducible refine gate_store (t := 3) (p := 69) rfl ?_); refine store_event (t := 3) (p := 69) (v := ?vo_w136) (w1 := (w132.setCell ⟨go120, (a1_4 : Int).toNat, none⟩ (.int .i64 (wrap64 ((l2.length : Int) + 1))))) ?hg ?ho ?hn ?hr ?_; (case ho => rfl); (case hg => rfl); (case hn => rfl); (case hr => first | (go_simp; done) | (go_simp; rfl)); intro w136 hw; have hg : w132.grownBy w136 (some go120) := (by rw [hw]; exact HP135.2); have hp_ : Kd.R (Kd.int .i64) 3 w136 w.heap.size (fun k_ => some k_ ≠ (.slice Ao131 t164.length co131 : Value).ownBlock) (.slice (some ⟨go120, 0, none⟩) t161.length co130) y168 := (by rw [hw, Ny168.out]; exact HP135.1); clear HP135; have n0_ := qM (blk_grown (g := gb135) (o := .cells #[.int .i64 a0_0, .slice A0_1 l0_1.length c0_1, .slice A0_2 l0_2.length c0_2, .int .i64 a0_3] 30 (0, 0)) (bz BK135) hg (Kd.R_ne HO163.out BK135.out (by decide))); have n1_ := qM (blk_grown (g := gb136) (o := .cells #[.int .i64 a1_0, .int .i64 a1_1, .slice A1_2 l1_2.length c1_2, .int .i64 a1_3, .int .i64 a1_4, .int .i64 a1_5] 33 (0, 0)) (bz BK136) hg (Kd.R_ne HO163.out BK136.out (by decide))); have n2_ := qM (blk_grown (g := gb137) (o := .cells #[.int .i64 0, .slice none 0 0, .slice none 0 0, .int .i64 0] 30 (0, 0)) (bz BK137) hg (Kd.R_ne HO163.out BK137.out (by decide))); have n3_ := qM (blk_grown (g := gb149) (o := .cells #[.int .i64 t160, .slice (some ⟨go120, 0, none⟩) t161.length co130, .slice Ao131 t164.length co131, .int .i64 t167] 30 (0, 0)) (bz BK149) hg (Kd.R_ne HO163.out BK149.out (by decide))); have n4_ := qM (hp_); have n5_ := qM (Kd.R_after (v := (.slice (some ⟨go120, 0, none⟩) t161.length co130)) (v1 := (.slice (some ⟨go120, 0, none⟩) t161.length co130)) (ok := (fun _ => True)) (by (with_reducible repeat (first | apply qA | apply qN | apply qD)); exact Kd.R_mono HO166.out (fun _ hk => ⟨trivial, hk⟩)) hg (.inl rfl)); have n6_ := qM ((by rw [hw]; exact yS (HB.out) GB120.out : Below w.heap.size w w136)); clear BK135 BK136 BK137 BK149 HO163 HO166 HB; revert n0_ n1_ n2_ n3_ n4_ n5_ n6_; intro BK135 BK136 BK137 BK149 HO163 HO166 HB; clear hg hw hp_; have hcz137_0 : w136.cell? ⟨gb149, 0, none⟩ = some (.int .i64 t160) := (zC BK149.out 0).trans rfl; have hcz137_1 : w136.cell? ⟨gb149, 1, none⟩ = some (.slice (some ⟨go120, 0, none⟩) t161.length co130) := (zC BK149.out 1).trans rfl; have hcz137_2 : w136.cell? ⟨gb149, 2, none⟩ = some (.slice Ao131 t164.length co131) := (zC BK149.out 2).trans rfl; have hcz137_3 : w136.cell? ⟨gb149, 3, none⟩ = some (.int .i64 t167) := (zC BK149.out 3).trans rfl; have hfz137_0 := zF BK149.out 0; have hfz137_1 := zF BK149.out 1; have hfz137_2 := zF BK149.out 2; have hfz137_3 := zF BK149.out 3; have hnb138 := NB137_135.out; have hnc138 := NB135_137.out; have hcz139_0 : w136.cell? ⟨gb137, 0, none⟩ = some (.int .i64 0) := (zC BK137.out 0).trans rfl; have hcz139_1 : w136.cell? ⟨gb137, 1, none⟩ = some (.slice none 0 0) := (zC BK137.out 1).trans rfl; have hcz139_2 : w136.cell? ⟨gb137, 2, none⟩ = some (.slice none 0 0) := (zC BK137.out 2).trans rfl; have hcz139_3 : w136.cell? ⟨gb137, 3, none⟩ = some (.int .i64 0) := (zC BK137.out 3).trans rfl; have hfz139_0 := zF BK137.out 0; have hfz139_1 := zF BK137.out 1; have hfz139_2 := zF BK137.out 2; have hfz139_3 := zF BK137.out 3))
             refine bodyPost_ret (results_cell_row rfl _ _ gb137 30 #[.int .i64 t160, .slice (some ⟨go120, 0, none⟩) t161.length co130, .slice Ao131 t164.length co131, .int .i64 t167] (0, 0) _ rfl (by (with_reducible repeat (first | refine zN ?_ _ | refine zD ?_ | refine zA ?_ _)); refine blk_put (cs := #[.int .i64 t160, .slice (some ⟨go120, 0, none⟩) t161.length co130, .slice Ao131 t164.length co131, .int .i64 0]) ?_ 3 _ rfl; (with_reducible repeat (first | refine zN ?_ _ | refine zD ?_ | refine zA ?_ _)); refine blk_put (cs := #[.int .i64 t160, .slice (some ⟨go120, 0, none⟩) t161.length co130, .slice none 0 0, .int .i64 0]) ?_ 2 _ rfl; (with_reducible repeat (first | refine zN ?_ _ | refine zD ?_ | refine zA ?_ _)); refine blk_put (cs := #[.int .i64 t160, .slice none 0 0, .slice none 0 0, .int .i64 0]) ?_ 1 _ rfl; (with_reducible repeat (first | refine zN ?_ _ | refine zD ?_ | refine zA ?_ _)); refine blk_put (cs := #[.int .i64 0, .slice none 0 0, .slice none 0 0, .int .i64 0]) ?_ 0 _ rfl; (with_reducible repeat (first | refine zN ?_ _ | refine zD ?_ | refine zA ?_ _)); exact BK137.out) Try.underlying30 rfl (by kernel_rfl)) rfl ?_
             exact ⟨_, _, by first | rfl | (simp [errW_none, errW_some] <;> rfl) | (simp [*, errW_none, errW_some] <;> rfl), by (with_reducible repeat (first | apply qA | apply qN | apply qD)); exact Kd.R_mono (qF (p := ⟨gb137, 3, none⟩) (qF (p := ⟨gb137, 2, none⟩) (qF (p := ⟨gb137, 1, none⟩) (qF (p := ⟨gb137, 0, none⟩) (Kd.R_types HO163.out BK137.out (by decide)) (fun _ hk => hk.2) (.int .i64 t160)) (fun _ hk => hk.2) (.slice (some ⟨go120, 0, none⟩) t161.length co130)) (fun _ hk => hk.2) (.slice Ao131 t164.length co131)) (fun _ hk => hk.2) (.int .i64 t167)) (fun _ hk => hk.1), by (with_reducible repeat (first | apply qA | apply qN | apply qD)); exact Kd.R_mono (qF (p := ⟨gb137, 3, none⟩) (qF (p := ⟨gb137, 2, none⟩) (qF (p := ⟨gb137, 1, none⟩) (qF (p := ⟨gb137, 0, none⟩) (Kd.R_types HO166.out BK137.out (by decide)) (fun _ hk => hk.2) (.int .i64 t160)) (fun _ hk => hk.2) (.slice (some ⟨go120, 0, none⟩) t161.length co130)) (fun _ hk => hk.2) (.slice Ao131 t164.length co131)) (fun _ hk => hk.2) (.int .i64 t167)) (fun _ hk => hk.1.2), by repeat (first | (with_reducible first | exact HB.out | apply yA | apply yN | apply yD | refine yS ?_ GE135.out | refine yS ?_ GE136.out | refine yS ?_ GE137.out | refine yS ?_ GE149.out) | exact HB.out)⟩
            ·rw [if_neg c119] at H
             exact absurd H (by simp)
           ·rw [if_neg c118] at H
            exact absurd H (by simp)
          ·replace c116 := Bool.eq_false_iff.mpr c116
           subst c116
           have H1 : (if 0 ≤ a1_4 then (if a1_4 < (t142.length : Int) then (some (t141, (t142.set (a1_4 : Int).toNat 0), t145, t148)) else (none)) else (none)) = some (r1, r2, r3, r4) := by rw [if_neg (show ¬ (false = true) by decide)] at H; exact H
           clear H
           have H := H1
           clear H1
           by_cases c140 : 0 ≤ a1_4
           ·rw [if_pos c140] at H
            have c140b0 : decide (0 ≤ a1_4) = true := decide_eq_true c140
            clear c140
            by_cases c141 : a1_4 < (t142.length : Int)
            ·rw [if_pos c141] at H
             have c141b0 : decide (a1_4 < (t142.length : Int)) = true := decide_eq_true c141
             clear c141
             obtain ⟨y169, hy169⟩ : ∃ y_ : List Int, y_ = (t142.set (a1_4 : Int).toNat 0) := ⟨_, rfl⟩
             replace H : (some (t141, y169, t145, t148)) = some (r1, r2, r3, r4) := by first | (rw [hy169]; with_reducible exact H) | (have H2_ := (Option.bind_some _ _).symm.trans H; rw [hy169]; with_reducible exact H2_) | (have H2_ := (Option.bind_some _ _).symm.trans H; with_reducible exact H2_) | with_reducible exact H | (rw [hy169]; exact H) | exact H
             have Ny169 := qM hy169
             clear hy169
             simp only [Option.some.injEq, Prod.mk.injEq] at H
             obtain ⟨rfl, rfl, rfl, rfl⟩ := H
             have hnb143 := NB149_135.out
             have hnc143 := NB135_149.out
             have hnb144 := NB149_136.out
             have hnc144 := NB136_149.out
             have hnb145 := NB149_137.out
             have hnc145 := NB137_149.out
             have hcz146_0 : wc.cell? ⟨gb149, 0, none⟩ = some (.int .i64 t141) := (zC BK149.out 0).trans rfl
             have hcz146_1 : wc.cell? ⟨gb149, 1, none⟩ = some (.slice Ao95 t142.length co95) := (zC BK149.out 1).trans rfl
             have hcz146_2 : wc.cell? ⟨gb149, 2, none⟩ = some (.slice Ao96 t145.length co96) := (zC BK149.out 2).trans rfl
             have hcz146_3 : wc.cell? ⟨gb149, 3, none⟩ = some (.int .i64 t148) := (zC BK149.out 3).trans rfl
             have hfz146_0 := zF BK149.out 0
             have hfz146_1 := zF BK149.out 1
             have hfz146_2 := zF BK149.out 2
             have hfz146_3 := zF BK149.out 3
             have hnb147 := NB136_135.out
             have hnc147 := NB135_136.out
             have hnb148 := NB136_137.out
             have hnc148 := NB137_136.out
             have hcz149_0 : wc.cell? ⟨gb136, 0, none⟩ = some (.int .i64 a1_0) := (zC BK136.out 0).trans rfl
             have hcz149_1 : wc.cell? ⟨gb136, 1, none⟩ = some (.int .i64 a1_1) := (zC BK136.out 1).trans rfl
             have hcz149_2 : wc.cell? ⟨gb136, 2, none⟩ = some (.slice A1_2 l1_2.length c1_2) := (zC BK136.out 2).trans rfl
             have hcz149_3 : wc.cell? ⟨gb136, 3, none⟩ = some (.int .i64 a1_3) := (zC BK136.out 3).trans rfl
             have hcz149_4 : wc.cell? ⟨gb136, 4, none⟩ = some (.int .i64 a1_4) := (zC BK136.out 4).trans rfl
             have hcz149_5 : wc.cell? ⟨gb136, 5, none⟩ = some (.int .i64 a1_5) := (zC BK136.out 5).trans rfl
             have hfz149_0 := zF BK136.out 0
             have hfz149_1 := zF BK136.out 1
             have hfz149_2 := zF BK136.out 2
             have hfz149_3 := zF BK136.out 3
             have hfz149_4 := zF BK136.out 4
             have hfz149_5 := zF BK136.out 5
             have p142 : 0 ≤ (a1_4 : Int) := of_decide_eq_true (by first | (with_reducible assumption) | assumption)
             have q142 : (a1_4 : Int) < ((t142.length : Int) : Int) := of_decide_eq_true (by first | (with_reducible assumption) | assumption)
             obtain ⟨go142, co142, eo142, gb142, gl142, cl142, HG142⟩ := Kd.R_form HO_150001.out (by omega)
             (first | cases eo142 | (injection eo142 with ea_ en_ ec_; (first | subst ea_ | (injection ea_ with ea_; subst ea_)); subst ec_; clear en_))
             have GB142 := qM gb142
             have GG142 := qM HG142
             clear gb142 gl142 HG142
             obtain ⟨hx142_0, hf142_0⟩ := Kd.R_celln 0 HO_150001.out (a1_4 : Int) p142 q142
             replace p142 := eq_true p142
             replace q142 := eq_true q142
             have HP150 := Kd.R_putg HO_150001.out (a1_4 : Int) 0
             go_wp2_with (first | ((with_reducible refine gate_store (t := 3) (p := 69) rfl ?_); refine store_event (t := 3) (p := 69) (v := ?vo_w151) (w1 := (wc.setCell ⟨go142, (a1_4 : Int).toNat, none⟩ (.int .i64 0))) ?hg ?ho ?hn ?hr ?_; (case ho => rfl); (case hg => rfl); (case hn => rfl); (case hr => first | (go_simp; done) | (go_simp; rfl)); intro w151 hw; have hg : wc.grownBy w151 (some go142) := (by rw [hw]; exact HP150.2); have hp_ : Kd.R (Kd.int .i64) 3 w151 w.heap.size (fun k_ => some k_ ≠ (.slice Ao96 t145.length co96 : Value).ownBlock) (.slice (some ⟨go142, 0, none⟩) t142.length co95) y169 := (by rw [hw, Ny169.out]; exact HP150.1); clear HP150; have n0_ := qM (hp_); have n1_ := qM (Kd.R_after (v := (.slice (some ⟨go142, 0, none⟩) t142.length co95)) (v1 := (.slice (some ⟨go142, 0, none⟩) t142.length co95)) (ok := (fun _ => True)) (by (with_reducible repeat (first | apply qA | apply qN | apply qD)); exact Kd.R_mono HO_150002.out (fun _ hk => ⟨trivial, hk⟩)) hg (.inl rfl)); have n2_ := qM (blk_grown (g := gb135) (o := .cells #[.int .i64 a0_0, .slice A0_1 l0_1.length c0_1, .slice A0_2 l0_2.length c0_2, .int .i64 a0_3] 30 (0, 0)) (bz BK135) hg (Kd.R_ne HO_150001.out BK135.out (by decide))); have n3_ := qM (blk_grown (g := gb136) (o := .cells #[.int .i64 a1_0, .int .i64 a1_1, .slice A1_2 l1_2.length c1_2, .int .i64 a1_3, .int .i64 a1_4, .int .i64 a1_5] 33 (0, 0)) (bz BK136) hg (Kd.R_ne HO_150001.out BK136.out (by decide))); have n4_ := qM (blk_grown (g := gb137) (o := .cells #[.int .i64 0, .slice none 0 0, .slice none 0 0, .int .i64 0] 30 (0, 0)) (bz BK137) hg (Kd.R_ne HO_150001.out BK137.out (by decide))); have n5_ := qM (blk_grown (g := gb149) (o := .cells #[.int .i64 t141, .slice (some ⟨go142, 0, none⟩) t142.length co95, .slice Ao96 t145.length co96, .int .i64 t148] 30 (0, 0)) (bz BK149) hg (Kd.R_ne HO_150001.out BK149.out (by decide))); have n6_ := qM ((by rw [hw]; exact yS (HB.out) GB142.out : Below w.heap.size w w151)); clear HO_150001 HO_150002 BK135 BK136 BK137 BK149 HB; revert n0_ n1_ n2_ n3_ n4_ n5_ n6_; intro HO_150001 HO_150002 BK135 BK136 BK137 BK149 HB; clear hg hw hp_; have hcz152_0 : w151.cell? ⟨gb149, 0, none⟩ = some (.int .i64 t141) := (zC BK149.out 0).trans rfl; have hcz152_1 : w151.cell? ⟨gb149, 1, none⟩ = some (.slice (some ⟨go142, 0, none⟩) t142.length co95) := (zC BK149.out 1).trans rfl; have hcz152_2 : w151.cell? ⟨gb149, 2, none⟩ = some (.slice Ao96 t145.length co96) := (zC BK149.out 2).trans rfl; have hcz152_3 : w151.cell? ⟨gb149, 3, none⟩ = some (.int .i64 t148) := (zC BK149.out 3).trans rfl; have hfz152_0 := zF BK149.out 0; have hfz152_1 := zF BK149.out 1; have hfz152_2 := zF BK149.out 2; have hfz152_3 := zF BK149.out 3; have hnb153 := NB137_135.out; have hnc153 := NB135_137.out; have hcz154_0 : w151.cell? ⟨gb137, 0, none⟩ = some (.int .i64 0) := (zC BK137.out 0).trans rfl; have hcz154_1 : w151.cell? ⟨gb137, 1, none⟩ = some (.slice none 0 0) := (zC BK137.out 1).trans rfl; have hcz154_2 : w151.cell? ⟨gb137, 2, none⟩ = some (.slice none 0 0) := (zC BK137.out 2).trans rfl; have hcz154_3 : w151.cell? ⟨gb137, 3, none⟩ = some (.int .i64 0) := (zC BK137.out 3).trans rfl; have hfz154_0 := zF BK137.out 0; have hfz154_1 := zF BK137.out 1; have hfz154_2 := zF BK137.out 2; have hfz154_3 := zF BK137.out 3))
             refine bodyPost_ret (results_cell_row rfl _ _ gb137 30 #[.int .i64 t141, .slice (some ⟨go142, 0, none⟩) t142.length co95, .slice Ao96 t145.length co96, .int .i64 t148] (0, 0) _ rfl (by (with_reducible repeat (first | refine zN ?_ _ | refine zD ?_ | refine zA ?_ _)); refine blk_put (cs := #[.int .i64 t141, .slice (some ⟨go142, 0, none⟩) t142.length co95, .slice Ao96 t145.length co96, .int .i64 0]) ?_ 3 _ rfl; (with_reducible repeat (first | refine zN ?_ _ | refine zD ?_ | refine zA ?_ _)); refine blk_put (cs := #[.int .i64 t141, .slice (some ⟨go142, 0, none⟩) t142.length co95, .slice none 0 0, .int .i64 0]) ?_ 2 _ rfl; (with_reducible repeat (first | refine zN ?_ _ | refine zD ?_ | refine zA ?_ _)); refine blk_put (cs := #[.int .i64 t141, .slice none 0 0, .slice none 0 0, .int .i64 0]) ?_ 1 _ rfl; (with_reducible repeat (first | refine zN ?_ _ | refine zD ?_ | refine zA ?_ _)); refine blk_put (cs := #[.int .i64 0, .slice none 0 0, .slice none 0 0, .int .i64 0]) ?_ 0 _ rfl; (with_reducible repeat (first | refine zN ?_ _ | refine zD ?_ | refine zA ?_ _)); exact BK137.out) Try.underlying30 rfl (by kernel_rfl)) rfl ?_
             exact ⟨_, _, by first | rfl | (simp [errW_none, errW_some] <;> rfl) | (simp [*, errW_none, errW_some] <;> rfl), by (with_reducible repeat (first | apply qA | apply qN | apply qD)); exact Kd.R_mono (qF (p := ⟨gb137, 3, none⟩) (qF (p := ⟨gb137, 2, none⟩) (qF (p := ⟨gb137, 1, none⟩) (qF (p := ⟨gb137, 0, none⟩) (Kd.R_types HO_150001.out BK137.out (by decide)) (fun _ hk => hk.2) (.int .i64 t141)) (fun _ hk => hk.2) (.slice (some ⟨go142, 0, none⟩) t142.length co95)) (fun _ hk => hk.2) (.slice Ao96 t145.length co96)) (fun _ hk => hk.2) (.int .i64 t148)) (fun _ hk => hk.1), by (with_reducible repeat (first | apply qA | apply qN | apply qD)); exact Kd.R_mono (qF (p := ⟨gb137, 3, none⟩) (qF (p := ⟨gb137, 2, none⟩) (qF (p := ⟨gb137, 1, none⟩) (qF (p := ⟨gb137, 0, none⟩) (Kd.R_types HO_150002.out BK137.out (by decide)) (fun _ hk => hk.2) (.int .i64 t141)) (fun _ hk => hk.2) (.slice (some ⟨go142, 0, none⟩) t142.length co95)) (fun _ hk => hk.2) (.slice Ao96 t145.length co96)) (fun _ hk => hk.2) (.int .i64 t148)) (fun _ hk => hk.1.2), by repeat (first | (with_reducible first | exact HB.out | apply yA | apply yN | apply yD | refine yS ?_ GE135.out | refine yS ?_ GE136.out | refine yS ?_ GE137.out | refine yS ?_ GE149.out) | exact HB.out)⟩
            ·rw [if_neg c141] at H
             exact absurd H (by simp)
           ·rw [if_neg c140] at H
            exact absurd H (by simp)
      ·rw [if_neg c84] at H
       have c84b0 : (a1_0 == 2) = false := beq_eq_false_iff_ne.mpr c84
       have c84b1 : (a1_0 != 2) = true := bne_iff_ne.mpr c84
       by_cases c155 : a1_0 = 3
       ·rw [if_pos c155] at H
        have c155b0 : (a1_0 == 3) = true := beq_iff_eq.mpr c155
        have c155b1 : (a1_0 != 3) = false := bne_eq_false_iff_eq.mpr c155
        clear c155
        by_cases c156 : a3 = true
        ·subst c156
         have H1 : (if (l2.length : Int) > 0 then (if 0 < (l2.length : Int) then (if 0 ≤ a1_4 then (if a1_4 < (t142.length : Int) then (if 0 ≤ a1_5 then (if a1_5 < (t142.length : Int) then (some (t141, ((t142.set (a1_4 : Int).toNat (wrap64 (rd l2 0))).set (a1_5 : Int).toNat 1), t145, t148)) else (none)) else (none)) else (none)) else (none)) else (none)) else (if 0 ≤ a1_4 then (if a1_4 < (t142.length : Int) then (if 0 ≤ a1_5 then (if a1_5 < (t142.length : Int) then (some (t141, ((t142.set (a1_4 : Int).toNat 0).set (a1_5 : Int).toNat 0), t145, t148)) else (none)) else (none)) else (none)) else (none))) = some (r1, r2, r3, r4) := by rw [if_pos rfl] at H; exact H
         clear H
         have H := H1
         clear H1
         by_cases c157 : (l2.length : Int) > 0
         ·rw [if_pos c157] at H
          have c157b0 : decide (0 < (l2.length : Int)) = true := decide_eq_true c157
          have c157b1 : decide (0 < l2.length) = true := decide_eq_true (by omega)
          clear c157
          by_cases c158 : 0 < (l2.length : Int)
          ·rw [if_pos c158] at H
           have c158b0 : decide (0 < (l2.length : Int)) = true := decide_eq_true c158
           have c158b1 : decide (0 < l2.length) = true := decide_eq_true (by omega)
           clear c158
           by_cases c159 : 0 ≤ a1_4
           ·rw [if_pos c159] at H
            have c159b0 : decide (0 ≤ a1_4) = true := decide_eq_true c159
            clear c159
            by_cases c160 : a1_4 < (t142.length : Int)
            ·rw [if_pos c160] at H
             have c160b0 : decide (a1_4 < (t142.length : Int)) = true := decide_eq_true c160
             clear c160
             obtain ⟨y171, hy171⟩ : ∃ y_ : List Int, y_ = (t142.set (a1_4 : Int).toNat (wrap64 (rd l2 0))) := ⟨_, rfl⟩
             replace H : (if 0 ≤ a1_5 then (if a1_5 < (t142.length : Int) then (some (t141, (y171.set (a1_5 : Int).toNat 1), t145, t148)) else (none)) else (none)) = some (r1, r2, r3, r4) := by first | (rw [hy171]; with_reducible exact H) | (have H2_ := (Option.bind_some _ _).symm.trans H; rw [hy171]; with_reducible exact H2_) | (have H2_ := (Option.bind_some _ _).symm.trans H; with_reducible exact H2_) | with_reducible exact H | (rw [hy171]; exact H) | exact H
             have Ny171 := qM hy171
             clear hy171
             by_cases c162 : 0 ≤ a1_5
             ·rw [if_pos c162] at H
              have c162b0 : decide (0 ≤ a1_5) = true := decide_eq_true c162
              clear c162
              by_cases c163 : a1_5 < (t142.length : Int)
              ·rw [if_pos c163] at H
               have c163b0 : decide (a1_5 < (t142.length : Int)) = true := decide_eq_true c163
               clear c163
               obtain ⟨y172, hy172⟩ : ∃ y_ : List Int, y_ = (y171.set (a1_5 : Int).toNat 1) := ⟨_, rfl⟩
               replace H : (some (t141, y172, t145, t148)) = some (r1, r2, r3, r4) := by first | (rw [hy172]; with_reducible exact H) | (have H2_ := (Option.bind_some _ _).symm.trans H; rw [hy172]; with_reducible exact H2_) | (have H2_ := (Option.bind_some _ _).symm.trans H; with_reducible exact H2_) | with_reducible exact H | (rw [hy172]; exact H) | exact H
               have Ny172 := qM hy172
               clear hy172
               simp only [Option.some.injEq, Prod.mk.injEq] at H
               obtain ⟨rfl, rfl, rfl, rfl⟩ := H
               have hnb165 := NB135_136.out
               have hnc165 := NB136_135.out
               have hnb166 := NB135_137.out
               have hnc166 := NB137_135.out
               have hcz167_0 : wc.cell? ⟨gb135, 0, none⟩ = some (.int .i64 a0_0) := (zC BK135.out 0).trans rfl
               have hcz167_1 : wc.cell? ⟨gb135, 1, none⟩ = some (.slice A0_1 l0_1.length c0_1) := (zC BK135.out 1).trans rfl
               have hcz167_2 : wc.cell? ⟨gb135, 2, none⟩ = some (.slice A0_2 l0_2.length c0_2) := (zC BK135.out 2).trans rfl
               have hcz167_3 : wc.cell? ⟨gb135, 3, none⟩ = some (.int .i64 a0_3) := (zC BK135.out 3).trans rfl
               have hfz167_0 := zF BK135.out 0
               have hfz167_1 := zF BK135.out 1
               have hfz167_2 := zF BK135.out 2
               have hfz167_3 := zF BK135.out 3
               try go_wp2_with (first | ((with_reducible refine gate_callee (f := 55) rfl ?_); refine goesL_ (some 26) rfl rfl Try.func55 (by kernel_rfl) rfl #[.agg #[.int .i64 a0_0, .slice A0_1 l0_1.length c0_1, .slice A0_2 l0_2.length c0_2, .int .i64 a0_3]] rfl (by (try simp only [List.map_toArray, List.map_cons, List.map_nil]); first | done | rfl | (simp only [List.length_drop, List.length_take]; rfl)) ?_; (with_reducible refine (spec_l6Copy.calls a0_0 _ _ l0_1 _ _ l0_2 a0_3 t141 t142 t145 t148 _ ?side1 ?side2 ?side3 ?side4 A36.out).mono ?_); (case side1 => repeat (first | exact (Kd.C_below HR0_1.out HB.out) | (with_reducible refine Kd.C_alloc ?_ _) | (with_reducible refine Kd.C_drewN ?_ _) | (with_reducible refine Kd.C_drew ?_))); (case side2 => exact HC0_1.out); (case side3 => repeat (first | exact (Kd.C_below HR0_2.out HB.out) | (with_reducible refine Kd.C_alloc ?_ _) | (with_reducible refine Kd.C_drewN ?_ _) | (with_reducible refine Kd.C_drew ?_))); (case side4 => exact HC0_2.out); rintro e w168 ⟨v143, v146, rfl, ho0, ho1, hb⟩; refine ⟨_, rfl, ?_⟩; have n0_ := qM (Kd.R_lower ho0 (below_size (yb HB))); have n1_ := qM (Kd.R_lower ho1 (below_size (yb HB))); have n2_ := qM (blk_below (bz BK135) hb); have n3_ := qM (blk_below (bz BK136) hb); have n4_ := qM (blk_below (bz BK137) hb); have n5_ := qM (below_step (yb HB) hb); clear BK135 BK136 BK137 HB; revert n0_ n1_ n2_ n3_ n4_ n5_; intro HO144 HO147 BK135 BK136 BK137 HB; (try clear hb); (try clear hb2); (try clear hk); (try clear hi); (try clear ho0); (try clear ho1)) | ((with_reducible refine gate_dst (N := 9) rfl ?_); (try (refine gate_guard (by rfl) ?_; dsimp only)); refine box_event ?hg (N := 9) ?hd (cs := #[.int .i64 0, .slice none 0 0, .slice none 0 0, .int .i64 0]) (t := 30) ?hr ?_; (case hd => rfl); (case hg => rfl); (case hr => first | (go_simp; done) | (go_simp; rfl)); intro gb149 hg w169 hbox hb; have n0_ := qM (Kd.R_below (qz HO144) hb); have n1_ := qM (Kd.R_below (qz HO147) hb); have n2_ := qM (blk_below (bz BK135) hb); have n3_ := qM (blk_below (bz BK136) hb); have n4_ := qM (blk_below (bz BK137) hb); have n5_ := qM (below_step (yb HB) hb); have n6_ := qM (hbox); have n7_ := qM ((by rw [hg]; exact (below_size (yb HB)) : w.heap.size ≤ gb149)); have n8_ := qM ((by rw [hg]; exact (below_size (yb HB)) : w.heap.size ≤ gb149)); have n9_ := qM ((by rw [hg]; exact Nat.ne_of_lt (blk_lt (bz BK135)) : gb135 ≠ gb149)); have n10_ := qM ((by rw [hg]; exact Nat.ne_of_gt (blk_lt (bz BK135)) : gb149 ≠ gb135)); have n11_ := qM ((by rw [hg]; exact Nat.ne_of_lt (blk_lt (bz BK136)) : gb136 ≠ gb149)); have n12_ := qM ((by rw [hg]; exact Nat.ne_of_gt (blk_lt (bz BK136)) : gb149 ≠ gb136)); have n13_ := qM ((by rw [hg]; exact Nat.ne_of_lt (blk_lt (bz BK137)) : gb137 ≠ gb149)); have n14_ := qM ((by rw [hg]; exact Nat.ne_of_gt (blk_lt (bz BK137)) : gb149 ≠ gb137)); clear HO144 HO147 BK135 BK136 BK137 HB; revert n0_ n1_ n2_ n3_ n4_ n5_ n6_ n7_ n8_ n9_ n10_ n11_ n12_ n13_ n14_; intro HO144 HO147 BK135 BK136 BK137 HB BK149 GW149 GE149 NB135_149 NB149_135 NB136_149 NB149_136 NB137_149 NB149_137; clear hb hbox hg; have hnb170 := NB149_135.out; have hnc170 := NB135_149.out; have hnb171 := NB149_136.out; have hnc171 := NB136_149.out; have hnb172 := NB149_137.out; have hnc172 := NB137_149.out; have hcz173_0 : w169.cell? ⟨gb149, 0, none⟩ = some (.int .i64 0) := (zC BK149.out 0).trans rfl; have hcz173_1 : w169.cell? ⟨gb149, 1, none⟩ = some (.slice none 0 0) := (zC BK149.out 1).trans rfl; have hcz173_2 : w169.cell? ⟨gb149, 2, none⟩ = some (.slice none 0 0) := (zC BK149.out 2).trans rfl; have hcz173_3 : w169.cell? ⟨gb149, 3, none⟩ = some (.int .i64 0) := (zC BK149.out 3).trans rfl; have hfz173_0 := zF BK149.out 0; have hfz173_1 := zF BK149.out 1; have hfz173_2 := zF BK149.out 2; have hfz173_3 := zF BK149.out 3; obtain ⟨Ao174, co174, eo174⟩ := Kd.R_slice HO144.out; subst eo174; obtain ⟨Ao175, co175, eo175⟩ := Kd.R_slice HO147.out; subst eo175; have hnb176 := NB136_137.out; have hnc176 := NB137_136.out; have hcz177_0 : w169.cell? ⟨gb136, 0, none⟩ = some (.int .i64 a1_0) := (zC BK136.out 0).trans rfl; have hcz177_1 : w169.cell? ⟨gb136, 1, none⟩ = some (.int .i64 a1_1) := (zC BK136.out 1).trans rfl; have hcz177_2 : w169.cell? ⟨gb136, 2, none⟩ = some (.slice A1_2 l1_2.length c1_2) := (zC BK136.out 2).trans rfl; have hcz177_3 : w169.cell? ⟨gb136, 3, none⟩ = some (.int .i64 a1_3) := (zC BK136.out 3).trans rfl; have hcz177_4 : w169.cell? ⟨gb136, 4, none⟩ = some (.int .i64 a1_4) := (zC BK136.out 4).trans rfl; have hcz177_5 : w169.cell? ⟨gb136, 5, none⟩ = some (.int .i64 a1_5) := (zC BK136.out 5).trans rfl; have hfz177_0 := zF BK136.out 0; have hfz177_1 := zF BK136.out 1; have hfz177_2 := zF BK136.out 2; have hfz177_3 := zF BK136.out 3; have hfz177_4 := zF BK136.out 4; have hfz177_5 := zF BK136.out 5))
               have n0_ : Aside0 (Kd.R (Kd.int .i64) 3 ((((w169.setCell ⟨gb149, 0, none⟩ (.int .i64 t141)).setCell ⟨gb149, 1, none⟩ (.slice Ao174 t142.length co174)).setCell ⟨gb149, 2, none⟩ (.slice Ao175 t145.length co175)).setCell ⟨gb149, 3, none⟩ (.int .i64 t148)) w.heap.size (fun k_ => some k_ ≠ (.slice Ao175 t145.length co175 : Value).ownBlock) (.slice Ao174 t142.length co174) t142) := ⟨by (with_reducible repeat (first | apply qA | apply qN | apply qD)); exact Kd.R_mono (qF (p := ⟨gb149, 3, none⟩) (qF (p := ⟨gb149, 2, none⟩) (qF (p := ⟨gb149, 1, none⟩) (qF (p := ⟨gb149, 0, none⟩) (Kd.R_types HO144.out BK149.out (by decide)) (fun _ hk => hk.2) (.int .i64 t141)) (fun _ hk => hk.2) (.slice Ao174 t142.length co174)) (fun _ hk => hk.2) (.slice Ao175 t145.length co175)) (fun _ hk => hk.2) (.int .i64 t148)) (fun _ hk => hk.1)⟩
               have n1_ : Aside0 (Kd.R (Kd.int .i64) 3 ((((w169.setCell ⟨gb149, 0, none⟩ (.int .i64 t141)).setCell ⟨gb149, 1, none⟩ (.slice Ao174 t142.length co174)).setCell ⟨gb149, 2, none⟩ (.slice Ao175 t145.length co175)).setCell ⟨gb149, 3, none⟩ (.int .i64 t148)) w.heap.size (fun k_ => some k_ ≠ (.slice Ao174 t142.length co174 : Value).ownBlock) (.slice Ao175 t145.length co175) t145) := ⟨by (with_reducible repeat (first | apply qA | apply qN | apply qD)); exact Kd.R_mono (qF (p := ⟨gb149, 3, none⟩) (qF (p := ⟨gb149, 2, none⟩) (qF (p := ⟨gb149, 1, none⟩) (qF (p := ⟨gb149, 0, none⟩) (Kd.R_types HO147.out BK149.out (by decide)) (fun _ hk => hk.2) (.int .i64 t141)) (fun _ hk => hk.2) (.slice Ao174 t142.length co174)) (fun _ hk => hk.2) (.slice Ao175 t145.length co175)) (fun _ hk => hk.2) (.int .i64 t148)) (fun _ hk => hk.1)⟩
               have n2_ : Aside0 (((((w169.setCell ⟨gb149, 0, none⟩ (.int .i64 t141)).setCell ⟨gb149, 1, none⟩ (.slice Ao174 t142.length co174)).setCell ⟨gb149, 2, none⟩ (.slice Ao175 t145.length co175)).setCell ⟨gb149, 3, none⟩ (.int .i64 t148)).heap[gb135]? = some (.cells #[.int .i64 a0_0, .slice A0_1 l0_1.length c0_1, .slice A0_2 l0_2.length c0_2, .int .i64 a0_3] 30 (0, 0))) := ⟨by (with_reducible repeat (first | refine zN ?_ _ | refine zD ?_ | refine zA ?_ _)); refine blk_far ?_ NB135_149.out _; (with_reducible repeat (first | refine zN ?_ _ | refine zD ?_ | refine zA ?_ _)); refine blk_far ?_ NB135_149.out _; (with_reducible repeat (first | refine zN ?_ _ | refine zD ?_ | refine zA ?_ _)); refine blk_far ?_ NB135_149.out _; (with_reducible repeat (first | refine zN ?_ _ | refine zD ?_ | refine zA ?_ _)); refine blk_far ?_ NB135_149.out _; (with_reducible repeat (first | refine zN ?_ _ | refine zD ?_ | refine zA ?_ _)); exact BK135.out⟩
               have n3_ : Aside0 (((((w169.setCell ⟨gb149, 0, none⟩ (.int .i64 t141)).setCell ⟨gb149, 1, none⟩ (.slice Ao174 t142.length co174)).setCell ⟨gb149, 2, none⟩ (.slice Ao175 t145.length co175)).setCell ⟨gb149, 3, none⟩ (.int .i64 t148)).heap[gb136]? = some (.cells #[.int .i64 a1_0, .int .i64 a1_1, .slice A1_2 l1_2.length c1_2, .int .i64 a1_3, .int .i64 a1_4, .int .i64 a1_5] 33 (0, 0))) := ⟨by (with_reducible repeat (first | refine zN ?_ _ | refine zD ?_ | refine zA ?_ _)); refine blk_far ?_ NB136_149.out _; (with_reducible repeat (first | refine zN ?_ _ | refine zD ?_ | refine zA ?_ _)); refine blk_far ?_ NB136_149.out _; (with_reducible repeat (first | refine zN ?_ _ | refine zD ?_ | refine zA ?_ _)); refine blk_far ?_ NB136_149.out _; (with_reducible repeat (first | refine zN ?_ _ | refine zD ?_ | refine zA ?_ _)); refine blk_far ?_ NB136_149.out _; (with_reducible repeat (first | refine zN ?_ _ | refine zD ?_ | refine zA ?_ _)); exact BK136.out⟩
               have n4_ : Aside0 (((((w169.setCell ⟨gb149, 0, none⟩ (.int .i64 t141)).setCell ⟨gb149, 1, none⟩ (.slice Ao174 t142.length co174)).setCell ⟨gb149, 2, none⟩ (.slice Ao175 t145.length co175)).setCell ⟨gb149, 3, none⟩ (.int .i64 t148)).heap[gb137]? = some (.cells #[.int .i64 0, .slice none 0 0, .slice none 0 0, .int .i64 0] 30 (0, 0))) := ⟨by (with_reducible repeat (first | refine zN ?_ _ | refine zD ?_ | refine zA ?_ _)); refine blk_far ?_ NB137_149.out _; (with_reducible repeat (first | refine zN ?_ _ | refine zD ?_ | refine zA ?_ _)); refine blk_far ?_ NB137_149.out _; (with_reducible repeat (first | refine zN ?_ _ | refine zD ?_ | refine zA ?_ _)); refine blk_far ?_ NB137_149.out _; (with_reducible repeat (first | refine zN ?_ _ | refine zD ?_ | refine zA ?_ _)); refine blk_far ?_ NB137_149.out _; (with_reducible repeat (first | refine zN ?_ _ | refine zD ?_ | refine zA ?_ _)); exact BK137.out⟩
               have n5_ : Aside0 (((((w169.setCell ⟨gb149, 0, none⟩ (.int .i64 t141)).setCell ⟨gb149, 1, none⟩ (.slice Ao174 t142.length co174)).setCell ⟨gb149, 2, none⟩ (.slice Ao175 t145.length co175)).setCell ⟨gb149, 3, none⟩ (.int .i64 t148)).heap[gb149]? = some (.cells #[.int .i64 t141, .slice Ao174 t142.length co174, .slice Ao175 t145.length co175, .int .i64 t148] 30 (0, 0))) := ⟨by (with_reducible repeat (first | refine zN ?_ _ | refine zD ?_ | refine zA ?_ _)); refine blk_put (cs := #[.int .i64 t141, .slice Ao174 t142.length co174, .slice Ao175 t145.length co175, .int .i64 0]) ?_ 3 _ rfl; (with_reducible repeat (first | refine zN ?_ _ | refine zD ?_ | refine zA ?_ _)); refine blk_put (cs := #[.int .i64 t141, .slice Ao174 t142.length co174, .slice none 0 0, .int .i64 0]) ?_ 2 _ rfl; (with_reducible repeat (first | refine zN ?_ _ | refine zD ?_ | refine zA ?_ _)); refine blk_put (cs := #[.int .i64 t141, .slice none 0 0, .slice none 0 0, .int .i64 0]) ?_ 1 _ rfl; (with_reducible repeat (first | refine zN ?_ _ | refine zD ?_ | refine zA ?_ _)); refine blk_put (cs := #[.int .i64 0, .slice none 0 0, .slice none 0 0, .int .i64 0]) ?_ 0 _ rfl; (with_reducible repeat (first | refine zN ?_ _ | refine zD ?_ | refine zA ?_ _)); exact BK149.out⟩
               have n6_ : Aside0 (Below w.heap.size w ((((w169.setCell ⟨gb149, 0, none⟩ (.int .i64 t141)).setCell ⟨gb149, 1, none⟩ (.slice Ao174 t142.length co174)).setCell ⟨gb149, 2, none⟩ (.slice Ao175 t145.length co175)).setCell ⟨gb149, 3, none⟩ (.int .i64 t148))) := ⟨by repeat (first | (with_reducible first | exact HB.out | apply yA | apply yN | apply yD | refine yS ?_ GE135.out | refine yS ?_ GE136.out | refine yS ?_ GE137.out | refine yS ?_ GE149.out) | exact HB.out)⟩
               (try clear HO144)
               (try clear HO147)
               (try clear BK135)
               (try clear BK136)
               (try clear BK137)
               (try clear BK149)
               (try clear HB)
               generalize ((((w169.setCell ⟨gb149, 0, none⟩ (.int .i64 t141)).setCell ⟨gb149, 1, none⟩ (.slice Ao174 t142.length co174)).setCell ⟨gb149, 2, none⟩ (.slice Ao175 t145.length co175)).setCell ⟨gb149, 3, none⟩ (.int .i64 t148)) = w178 at n0_ n1_ n2_ n3_ n4_ n5_ n6_ ⊢
               revert n0_ n1_ n2_ n3_ n4_ n5_ n6_
               intro HO144 HO147 BK135 BK136 BK137 BK149 HB
               have n0_ := qM (qD HO144.out)
               have n1_ := qM (qD HO147.out)
               have n2_ := qM (zD BK135.out)
               have n3_ := qM (zD BK136.out)
               have n4_ := qM (zD BK137.out)
               have n5_ := qM (zD BK149.out)
               have n6_ := qM (yD HB.out)
               clear HO144 HO147 BK135 BK136 BK137 BK149 HB
               revert n0_ n1_ n2_ n3_ n4_ n5_ n6_
               intro HO144 HO147 BK135 BK136 BK137 BK149 HB
               have p170 : 0 ≤ (0 : Int) := (by omega)
               have q170 : 0 < (l2.length : Int) := of_decide_eq_true (by first | (with_reducible assumption) | assumption)
               obtain ⟨ad170, e170, hx170_0⟩ := Kd.at_int HR2.out 0 p170 q170
               have hw170_0 := hx170_0
               (try rw [show ((0 : Int)).toNat = 0 from rfl] at hw170_0)
               (try rw [show 0 * 1 = 0 from rfl] at hw170_0)
               (try rw [Addr.add_zero'] at hw170_0)
               cases e170
               have qi170 : (0 < l2.length) = True := eq_true (by omega)
               (try rw [show ((0 : Int)).toNat = 0 from rfl] at hx170_0)
               (try rw [Addr.add_zero'] at hx170_0)
               replace hx170_0 := (HB.out.cell (World.block_lt_of_cell? w _ hx170_0)).trans hx170_0
               replace p170 := eq_true p170
               replace q170 := eq_true q170
               have p161 : 0 ≤ (a1_4 : Int) := of_decide_eq_true (by first | (with_reducible assumption) | assumption)
               have q161 : (a1_4 : Int) < ((t142.length : Int) : Int) := of_decide_eq_true (by first | (with_reducible assumption) | assumption)
               obtain ⟨go161, co161, eo161, gb161, gl161, cl161, HG161⟩ := Kd.R_form HO144.out (by omega)
               (first | cases eo161 | (injection eo161 with ea_ en_ ec_; (first | subst ea_ | (injection ea_ with ea_; subst ea_)); subst ec_; clear en_))
               have GB161 := qM gb161
               have GG161 := qM HG161
               clear gb161 gl161 HG161
               obtain ⟨hx161_0, hf161_0⟩ := Kd.R_celln 0 HO144.out (a1_4 : Int) p161 q161
               replace p161 := eq_true p161
               replace q161 := eq_true q161
               have HP180 := Kd.R_putn HO144.out (a1_4 : Int) (wrap64 (rd l2 0))
               rw [← Ny171.out] at HP180
               have HQ180 := qM HP180
               clear HP180
               refine start_ (n := 10) (S := fun w' => w'.cell? ⟨gb149, 0, none⟩ = some (.int .i64 t141) ∧ w'.cell? ⟨gb149, 1, none⟩ = some (.slice (some ⟨go161, 0, none⟩) t142.length co174) ∧ w'.cell? ⟨gb149, 2, none⟩ = some (.slice Ao175 t145.length co175) ∧ w'.cell? ⟨gb149, 3, none⟩ = some (.int .i64 t148) ∧ w'.cell? ⟨gb136, 0, none⟩ = some (.int .i64 a1_0) ∧ w'.cell? ⟨gb136, 1, none⟩ = some (.int .i64 a1_1) ∧ w'.cell? ⟨gb136, 2, none⟩ = some (.slice A1_2 l1_2.length c1_2) ∧ w'.cell? ⟨gb136, 3, none⟩ = some (.int .i64 a1_3) ∧ w'.cell? ⟨gb136, 4, none⟩ = some (.int .i64 a1_4) ∧ w'.cell? ⟨gb136, 5, none⟩ = some (.int .i64 a1_5) ∧ w'.cell? ad170 = some (.int .u8 (rd l2 0))) (ds := [9]) #[false, false, false, false, false, false, false, false, false, false] (by kernel_rfl) rfl rfl ⟨(zC BK149.out 0).trans rfl, (zC BK149.out 1).trans rfl, (zC BK149.out 2).trans rfl, (zC BK149.out 3).trans rfl, (zC BK136.out 0).trans rfl, (zC BK136.out 1).trans rfl, (zC BK136.out 2).trans rfl, (zC BK136.out 3).trans rfl, (zC BK136.out 4).trans rfl, (zC BK136.out 5).trans rfl, ((HB.out.cell (World.block_lt_of_cell? w _ hw170_0)).trans hw170_0)⟩ (fun hHeld => ?_); refine with_tabW spec_VmGive.tab22 spec_VmGive.bits22 (fun HT_ HW_ => ?_)
               generalize w178.drew = w179 at HO144 HO147 BK135 BK136 BK137 BK149 HB GG161 HQ180 hf161_0 hx161_0 hx170_0 hHeld ⊢
               refine pure_ (i := 0) (N := some 78) (v := ?_) (a' := ?_) #[true, false, false, false, false, false, false, false, false, false] rfl rfl (any_of HT_.out (by kernel_rfl)) (fun _ _ _ h => h) (Or.inl ⟨by rfl, ?_⟩) ?_ ?_
               rotate_left
               ·intro w'
                go_simp
                with_reducible rfl
               rotate_left
               ·simp only [Act.put, List.setIfInBounds_toArray, List.set_cons_zero, List.set_cons_succ, i64_w, i32_w]
                rfl
               refine pure_ (i := 2) (N := some 80) (v := ?_) (a' := ?_) #[true, false, true, false, false, false, false, false, false, false] rfl rfl (any_of HT_.out (by kernel_rfl)) (fun _ _ _ h => h) (Or.inl ⟨by rfl, ?_⟩) ?_ ?_
               rotate_left
               ·intro w'
                go_simp
                with_reducible rfl
               rotate_left
               ·simp only [Act.put, List.setIfInBounds_toArray, List.set_cons_zero, List.set_cons_succ, i64_w, i32_w]
                rfl
               refine pure_ (i := 4) (N := some 82) (v := ?_) (a' := ?_) #[true, false, true, false, true, false, false, false, false, false] rfl rfl (any_of HT_.out (by kernel_rfl)) (fun _ _ _ h => h) (Or.inl ⟨by rfl, ?_⟩) ?_ ?_
               rotate_left
               ·intro w'
                go_simp
                with_reducible rfl
               rotate_left
               ·simp only [Act.put, List.setIfInBounds_toArray, List.set_cons_zero, List.set_cons_succ, i64_w, i32_w]
                rfl
               refine pure_ (i := 5) (N := some 83) (v := ?_) (a' := ?_) #[true, false, true, false, true, true, false, false, false, false] rfl rfl (any_of HT_.out (by kernel_rfl)) (fun _ _ _ h => h) (Or.inl ⟨by rfl, ?_⟩) ?_ ?_
               rotate_left
               ·intro w'
                go_simp
                with_reducible rfl
               rotate_left
               ·simp only [Act.put, List.setIfInBounds_toArray, List.set_cons_zero, List.set_cons_succ, i64_w, i32_w]
                rfl
               refine take_ (i := 1) (N := some 79) (v := ?_) (a' := ?_) #[true, true, true, false, true, true, false, false, false, false] rfl rfl (take_ofW HT_.out HW_.out (by kernel_rfl)) (fun _ _ _ h => h) (Or.inl ⟨by rfl, ?_⟩) hHeld ?_ ?_
               rotate_left
               ·rintro w' ⟨s0, s1, s2, s3, s4, s5, s6, s7, s8, s9, s10⟩
                go_simp
                with_reducible rfl
               rotate_left
               ·simp only [Act.put, List.setIfInBounds_toArray, List.set_cons_zero, List.set_cons_succ, i64_w, i32_w]
                rfl
               refine take_ (i := 3) (N := some 81) (v := ?_) (a' := ?_) #[true, true, true, true, true, true, false, false, false, false] rfl rfl (take_ofW HT_.out HW_.out (by kernel_rfl)) (fun _ _ _ h => h) (Or.inl ⟨by rfl, ?_⟩) hHeld ?_ ?_
               rotate_left
               ·rintro w' ⟨s0, s1, s2, s3, s4, s5, s6, s7, s8, s9, s10⟩
                go_simp
                with_reducible rfl
               rotate_left
               ·simp only [Act.put, List.setIfInBounds_toArray, List.set_cons_zero, List.set_cons_succ, i64_w, i32_w]
                rfl
               refine take_ (i := 6) (N := some 84) (v := ?_) (a' := ?_) #[true, true, true, true, true, true, true, false, false, false] rfl rfl (take_ofW HT_.out HW_.out (by kernel_rfl)) (fun _ _ _ h => h) (Or.inl ⟨by rfl, ?_⟩) hHeld ?_ ?_
               rotate_left
               ·rintro w' ⟨s0, s1, s2, s3, s4, s5, s6, s7, s8, s9, s10⟩
                go_simp
                with_reducible rfl
               rotate_left
               ·simp only [Act.put, List.setIfInBounds_toArray, List.set_cons_zero, List.set_cons_succ, i64_w, i32_w]
                rfl
               refine pure_ (i := 7) (N := some 85) (v := ?_) (a' := ?_) #[true, true, true, true, true, true, true, true, false, false] rfl rfl (any_of HT_.out (by kernel_rfl)) (fun _ _ _ h => h) (Or.inl ⟨by rfl, ?_⟩) ?_ ?_
               rotate_left
               ·intro w'
                go_simp
                with_reducible rfl
               rotate_left
               ·simp only [Act.put, List.setIfInBounds_toArray, List.set_cons_zero, List.set_cons_succ, i64_w, i32_w]
                rfl
               refine pure_ (i := 8) (N := some 86) (v := ?_) (a' := ?_) #[true, true, true, true, true, true, true, true, true, false] rfl rfl (any_of HT_.out (by kernel_rfl)) (fun _ _ _ h => h) (Or.inl ⟨by rfl, ?_⟩) ?_ ?_
               rotate_left
               ·intro w'
                go_simp
                with_reducible rfl
               rotate_left
               ·simp only [Act.put, List.setIfInBounds_toArray, List.set_cons_zero, List.set_cons_succ, i64_w, i32_w]
                rfl
               refine last_ (i := 9) (N := none) #[true, true, true, true, true, true, true, true, true, true] rfl rfl (one_of HT_.out (by kernel_rfl)) (by decide) (fun K hK => ?_)
               refine skip_ (w1 := ?_) (by rfl) rfl ?_ ?_
               rotate_left
               ·go_simp
                rfl
               refine hK.out _ _ ?_
               clear hK K
               refine done_ (done_of HT_.out (by kernel_rfl)) ?_
               have n0_ : Aside0 (Kd.R (Kd.int .i64) 3 (w179.setCell ⟨go161, (a1_4 : Int).toNat, none⟩ (.int .i64 (wrap64 (rd l2 0)))) w.heap.size (fun k_ => some k_ ≠ (.slice Ao175 t145.length co175 : Value).ownBlock) (.slice (some ⟨go161, 0, none⟩) t142.length co174) y171) := ⟨by (with_reducible repeat (first | apply qA | apply qN | apply qD)); exact HQ180.out⟩
               have n1_ : Aside0 (Kd.R (Kd.int .i64) 3 (w179.setCell ⟨go161, (a1_4 : Int).toNat, none⟩ (.int .i64 (wrap64 (rd l2 0)))) w.heap.size (fun k_ => some k_ ≠ (.slice (some ⟨go161, 0, none⟩) t142.length co174 : Value).ownBlock) (.slice Ao175 t145.length co175) t145) := ⟨by (with_reducible repeat (first | apply qA | apply qN | apply qD)); exact Kd.R_mono (qF (p := ⟨go161, (a1_4 : Int).toNat, none⟩) (Kd.R_mono HO147.out (fun k_ hk => (⟨hk, fun e_ => hk (by rw [e_]; rfl)⟩ : _ ∧ k_ ≠ go161))) (fun _ hk => hk.2) (.int .i64 (wrap64 (rd l2 0)))) (fun _ hk => hk.1)⟩
               have n2_ : Aside0 ((w179.setCell ⟨go161, (a1_4 : Int).toNat, none⟩ (.int .i64 (wrap64 (rd l2 0)))).heap[gb135]? = some (.cells #[.int .i64 a0_0, .slice A0_1 l0_1.length c0_1, .slice A0_2 l0_2.length c0_2, .int .i64 a0_3] 30 (0, 0))) := ⟨by (with_reducible repeat (first | refine zN ?_ _ | refine zD ?_ | refine zA ?_ _)); refine blk_far ?_ (by have h_ := Kd.R_ne HO144.out BK135.out (by decide); intro e_; exact h_ (by rw [e_]; rfl)) _; (with_reducible repeat (first | refine zN ?_ _ | refine zD ?_ | refine zA ?_ _)); exact BK135.out⟩
               have n3_ : Aside0 ((w179.setCell ⟨go161, (a1_4 : Int).toNat, none⟩ (.int .i64 (wrap64 (rd l2 0)))).heap[gb136]? = some (.cells #[.int .i64 a1_0, .int .i64 a1_1, .slice A1_2 l1_2.length c1_2, .int .i64 a1_3, .int .i64 a1_4, .int .i64 a1_5] 33 (0, 0))) := ⟨by (with_reducible repeat (first | refine zN ?_ _ | refine zD ?_ | refine zA ?_ _)); refine blk_far ?_ (by have h_ := Kd.R_ne HO144.out BK136.out (by decide); intro e_; exact h_ (by rw [e_]; rfl)) _; (with_reducible repeat (first | refine zN ?_ _ | refine zD ?_ | refine zA ?_ _)); exact BK136.out⟩
               have n4_ : Aside0 ((w179.setCell ⟨go161, (a1_4 : Int).toNat, none⟩ (.int .i64 (wrap64 (rd l2 0)))).heap[gb137]? = some (.cells #[.int .i64 0, .slice none 0 0, .slice none 0 0, .int .i64 0] 30 (0, 0))) := ⟨by (with_reducible repeat (first | refine zN ?_ _ | refine zD ?_ | refine zA ?_ _)); refine blk_far ?_ (by have h_ := Kd.R_ne HO144.out BK137.out (by decide); intro e_; exact h_ (by rw [e_]; rfl)) _; (with_reducible repeat (first | refine zN ?_ _ | refine zD ?_ | refine zA ?_ _)); exact BK137.out⟩
               have n5_ : Aside0 ((w179.setCell ⟨go161, (a1_4 : Int).toNat, none⟩ (.int .i64 (wrap64 (rd l2 0)))).heap[gb149]? = some (.cells #[.int .i64 t141, .slice (some ⟨go161, 0, none⟩) t142.length co174, .slice Ao175 t145.length co175, .int .i64 t148] 30 (0, 0))) := ⟨by (with_reducible repeat (first | refine zN ?_ _ | refine zD ?_ | refine zA ?_ _)); refine blk_far ?_ (by have h_ := Kd.R_ne HO144.out BK149.out (by decide); intro e_; exact h_ (by rw [e_]; rfl)) _; (with_reducible repeat (first | refine zN ?_ _ | refine zD ?_ | refine zA ?_ _)); exact BK149.out⟩
               have n6_ : Aside0 (Below w.heap.size w (w179.setCell ⟨go161, (a1_4 : Int).toNat, none⟩ (.int .i64 (wrap64 (rd l2 0))))) := ⟨by repeat (first | (with_reducible first | exact HB.out | apply yA | apply yN | apply yD | refine yS ?_ GB161.out | refine yS ?_ GE135.out | refine yS ?_ GE136.out | refine yS ?_ GE137.out | refine yS ?_ GE149.out) | exact HB.out)⟩
               (try clear HO144)
               (try clear HO147)
               (try clear BK135)
               (try clear BK136)
               (try clear BK137)
               (try clear BK149)
               (try clear HB)
               generalize (w179.setCell ⟨go161, (a1_4 : Int).toNat, none⟩ (.int .i64 (wrap64 (rd l2 0)))) = w181 at n0_ n1_ n2_ n3_ n4_ n5_ n6_ ⊢
               revert n0_ n1_ n2_ n3_ n4_ n5_ n6_
               intro HO144 HO147 BK135 BK136 BK137 BK149 HB
               have hcz182_0 : w181.cell? ⟨gb149, 0, none⟩ = some (.int .i64 t141) := (zC BK149.out 0).trans rfl
               have hcz182_1 : w181.cell? ⟨gb149, 1, none⟩ = some (.slice (some ⟨go161, 0, none⟩) t142.length co174) := (zC BK149.out 1).trans rfl
               have hcz182_2 : w181.cell? ⟨gb149, 2, none⟩ = some (.slice Ao175 t145.length co175) := (zC BK149.out 2).trans rfl
               have hcz182_3 : w181.cell? ⟨gb149, 3, none⟩ = some (.int .i64 t148) := (zC BK149.out 3).trans rfl
               have hfz182_0 := zF BK149.out 0
               have hfz182_1 := zF BK149.out 1
               have hfz182_2 := zF BK149.out 2
               have hfz182_3 := zF BK149.out 3
               have hcz183_0 : w181.cell? ⟨gb136, 0, none⟩ = some (.int .i64 a1_0) := (zC BK136.out 0).trans rfl
               have hcz183_1 : w181.cell? ⟨gb136, 1, none⟩ = some (.int .i64 a1_1) := (zC BK136.out 1).trans rfl
               have hcz183_2 : w181.cell? ⟨gb136, 2, none⟩ = some (.slice A1_2 l1_2.length c1_2) := (zC BK136.out 2).trans rfl
               have hcz183_3 : w181.cell? ⟨gb136, 3, none⟩ = some (.int .i64 a1_3) := (zC BK136.out 3).trans rfl
               have hcz183_4 : w181.cell? ⟨gb136, 4, none⟩ = some (.int .i64 a1_4) := (zC BK136.out 4).trans rfl
               have hcz183_5 : w181.cell? ⟨gb136, 5, none⟩ = some (.int .i64 a1_5) := (zC BK136.out 5).trans rfl
               have hfz183_0 := zF BK136.out 0
               have hfz183_1 := zF BK136.out 1
               have hfz183_2 := zF BK136.out 2
               have hfz183_3 := zF BK136.out 3
               have hfz183_4 := zF BK136.out 4
               have hfz183_5 := zF BK136.out 5
               have p164 : 0 ≤ (a1_5 : Int) := of_decide_eq_true (by first | (with_reducible assumption) | assumption)
               have q164 : (a1_5 : Int) < ((t142.length : Int) : Int) := of_decide_eq_true (by first | (with_reducible assumption) | assumption)
               obtain ⟨hx164_0, hf164_0⟩ := Kd.R_celln 0 HO144.out (a1_5 : Int) p164 q164
               replace p164 := eq_true p164
               replace q164 := eq_true q164
               obtain ⟨hy184_, hz184_⟩ := Kd.R_celln 0 HO144.out (a1_5 : Int) (of_decide_eq_true (by first | (with_reducible assumption) | assumption)) (of_decide_eq_true (by first | (with_reducible assumption) | assumption))
               have HP184 := Kd.R_putg HO144.out (a1_5 : Int) 1
               try go_wp2_with (first | ((with_reducible refine gate_store (t := 3) (p := 97) rfl ?_); refine store_event (t := 3) (p := 97) (v := ?vo_w185) (w1 := (w181.setCell ⟨go161, (a1_5 : Int).toNat, none⟩ (.int .i64 1))) ?hg ?ho ?hn ?hr ?_; (case ho => rfl); (case hg => rfl); (case hn => rfl); (case hr => first | (go_simp; done) | (go_simp; rfl)); intro w185 hw; have hg : w181.grownBy w185 (some go161) := (by rw [hw]; exact HP184.2); have hp_ : Kd.R (Kd.int .i64) 3 w185 w.heap.size (fun k_ => some k_ ≠ (.slice Ao175 t145.length co175 : Value).ownBlock) (.slice (some ⟨go161, 0, none⟩) t142.length co174) y172 := (by rw [hw, Ny172.out]; exact HP184.1); clear HP184; have n0_ := qM (blk_grown (g := gb135) (o := .cells #[.int .i64 a0_0, .slice A0_1 l0_1.length c0_1, .slice A0_2 l0_2.length c0_2, .int .i64 a0_3] 30 (0, 0)) (bz BK135) hg (Kd.R_ne HO144.out BK135.out (by decide))); have n1_ := qM (blk_grown (g := gb136) (o := .cells #[.int .i64 a1_0, .int .i64 a1_1, .slice A1_2 l1_2.length c1_2, .int .i64 a1_3, .int .i64 a1_4, .int .i64 a1_5] 33 (0, 0)) (bz BK136) hg (Kd.R_ne HO144.out BK136.out (by decide))); have n2_ := qM (blk_grown (g := gb137) (o := .cells #[.int .i64 0, .slice none 0 0, .slice none 0 0, .int .i64 0] 30 (0, 0)) (bz BK137) hg (Kd.R_ne HO144.out BK137.out (by decide))); have n3_ := qM (hp_); have n4_ := qM (Kd.R_after (v := (.slice (some ⟨go161, 0, none⟩) t142.length co174)) (v1 := (.slice (some ⟨go161, 0, none⟩) t142.length co174)) (ok := (fun _ => True)) (by (with_reducible repeat (first | apply qA | apply qN | apply qD)); exact Kd.R_mono HO147.out (fun _ hk => ⟨trivial, hk⟩)) hg (.inl rfl)); have n5_ := qM (blk_grown (g := gb149) (o := .cells #[.int .i64 t141, .slice (some ⟨go161, 0, none⟩) t142.length co174, .slice Ao175 t145.length co175, .int .i64 t148] 30 (0, 0)) (bz BK149) hg (Kd.R_ne HO144.out BK149.out (by decide))); have n6_ := qM ((by rw [hw]; exact yS (HB.out) GB161.out : Below w.heap.size w w185)); clear BK135 BK136 BK137 HO144 HO147 BK149 HB; revert n0_ n1_ n2_ n3_ n4_ n5_ n6_; intro BK135 BK136 BK137 HO144 HO147 BK149 HB; clear hg hw hp_; have hcz186_0 : w185.cell? ⟨gb149, 0, none⟩ = some (.int .i64 t141) := (zC BK149.out 0).trans rfl; have hcz186_1 : w185.cell? ⟨gb149, 1, none⟩ = some (.slice (some ⟨go161, 0, none⟩) t142.length co174) := (zC BK149.out 1).trans rfl; have hcz186_2 : w185.cell? ⟨gb149, 2, none⟩ = some (.slice Ao175 t145.length co175) := (zC BK149.out 2).trans rfl; have hcz186_3 : w185.cell? ⟨gb149, 3, none⟩ = some (.int .i64 t148) := (zC BK149.out 3).trans rfl; have hfz186_0 := zF BK149.out 0; have hfz186_1 := zF BK149.out 1; have hfz186_2 := zF BK149.out 2; have hfz186_3 := zF BK149.out 3; have hcz187_0 : w185.cell? ⟨gb137, 0, none⟩ = some (.int .i64 0) := (zC BK137.out 0).trans rfl; have hcz187_1 : w185.cell? ⟨gb137, 1, none⟩ = some (.slice none 0 0) := (zC BK137.out 1).trans rfl; have hcz187_2 : w185.cell? ⟨gb137, 2, none⟩ = some (.slice none 0 0) := (zC BK137.out 2).trans rfl; have hcz187_3 : w185.cell? ⟨gb137, 3, none⟩ = some (.int .i64 0) := (zC BK137.out 3).trans rfl; have hfz187_0 := zF BK137.out 0; have hfz187_1 := zF BK137.out 1; have hfz187_2 := zF BK137.out 2; have hfz187_3 := zF BK137.out 3))
               refine bodyPost_ret (results_cell_row rfl _ _ gb137 30 #[.int .i64 t141, .slice (some ⟨go161, 0, none⟩) t142.length co174, .slice Ao175 t145.length co175, .int .i64 t148] (0, 0) _ rfl (by (with_reducible repeat (first | refine zN ?_ _ | refine zD ?_ | refine zA ?_ _)); refine blk_put (cs := #[.int .i64 t141, .slice (some ⟨go161, 0, none⟩) t142.length co174, .slice Ao175 t145.length co175, .int .i64 0]) ?_ 3 _ rfl; (with_reducible repeat (first | refine zN ?_ _ | refine zD ?_ | refine zA ?_ _)); refine blk_put (cs := #[.int .i64 t141, .slice (some ⟨go161, 0, none⟩) t142.length co174, .slice none 0 0, .int .i64 0]) ?_ 2 _ rfl; (with_reducible repeat (first | refine zN ?_ _ | refine zD ?_ | refine zA ?_ _)); refine blk_put (cs := #[.int .i64 t141, .slice none 0 0, .slice none 0 0, .int .i64 0]) ?_ 1 _ rfl; (with_reducible repeat (first | refine zN ?_ _ | refine zD ?_ | refine zA ?_ _)); refine blk_put (cs := #[.int .i64 0, .slice none 0 0, .slice none 0 0, .int .i64 0]) ?_ 0 _ rfl; (with_reducible repeat (first | refine zN ?_ _ | refine zD ?_ | refine zA ?_ _)); exact BK137.out) Try.underlying30 rfl (by kernel_rfl)) rfl ?_
               exact ⟨_, _, by first | rfl | (simp [errW_none, errW_some] <;> rfl) | (simp [*, errW_none, errW_some] <;> rfl), by (with_reducible repeat (first | apply qA | apply qN | apply qD)); exact Kd.R_mono (qF (p := ⟨gb137, 3, none⟩) (qF (p := ⟨gb137, 2, none⟩) (qF (p := ⟨gb137, 1, none⟩) (qF (p := ⟨gb137, 0, none⟩) (Kd.R_types HO144.out BK137.out (by decide)) (fun _ hk => hk.2) (.int .i64 t141)) (fun _ hk => hk.2) (.slice (some ⟨go161, 0, none⟩) t142.length co174)) (fun _ hk => hk.2) (.slice Ao175 t145.length co175)) (fun _ hk => hk.2) (.int .i64 t148)) (fun _ hk => hk.1), by (with_reducible repeat (first | apply qA | apply qN | apply qD)); exact Kd.R_mono (qF (p := ⟨gb137, 3, none⟩) (qF (p := ⟨gb137, 2, none⟩) (qF (p := ⟨gb137, 1, none⟩) (qF (p := ⟨gb137, 0, none⟩) (Kd.R_types HO147.out BK137.out (by decide)) (fun _ hk => hk.2) (.int .i64 t141)) (fun _ hk => hk.2) (.slice (some ⟨go161, 0, none⟩) t142.length co174)) (fun _ hk => hk.2) (.slice Ao175 t145.length co175)) (fun _ hk => hk.2) (.int .i64 t148)) (fun _ hk => hk.1.2), by repeat (first | (with_reducible first | exact HB.out | apply yA | apply yN | apply yD | refine yS ?_ GE135.out | refine yS ?_ GE136.out | refine yS ?_ GE137.out | refine yS ?_ GE149.out) | exact HB.out)⟩
              ·rw [if_neg c163] at H
               exact absurd H (by simp)
             ·rw [if_neg c162] at H
              exact absurd H (by simp)
            ·rw [if_neg c160] at H
             exact absurd H (by simp)
           ·rw [if_neg c159] at H
            exact absurd H (by simp)
          ·rw [if_neg c158] at H
           exact absurd H (by simp)
         ·rw [if_neg c157] at H
          have c157b0 : decide (0 < (l2.length : Int)) = false := decide_eq_false c157
          have c157b1 : decide (0 < l2.length) = false := decide_eq_false (by omega)
          clear c157
          by_cases c188 : 0 ≤ a1_4
          ·rw [if_pos c188] at H
           have c188b0 : decide (0 ≤ a1_4) = true := decide_eq_true c188
           clear c188
           by_cases c189 : a1_4 < (t142.length : Int)
           ·rw [if_pos c189] at H
            have c189b0 : decide (a1_4 < (t142.length : Int)) = true := decide_eq_true c189
            clear c189
            obtain ⟨y173, hy173⟩ : ∃ y_ : List Int, y_ = (t142.set (a1_4 : Int).toNat 0) := ⟨_, rfl⟩
            replace H : (if 0 ≤ a1_5 then (if a1_5 < (t142.length : Int) then (some (t141, (y173.set (a1_5 : Int).toNat 0), t145, t148)) else (none)) else (none)) = some (r1, r2, r3, r4) := by first | (rw [hy173]; with_reducible exact H) | (have H2_ := (Option.bind_some _ _).symm.trans H; rw [hy173]; with_reducible exact H2_) | (have H2_ := (Option.bind_some _ _).symm.trans H; with_reducible exact H2_) | with_reducible exact H | (rw [hy173]; exact H) | exact H
            have Ny173 := qM hy173
            clear hy173
            by_cases c191 : 0 ≤ a1_5
            ·rw [if_pos c191] at H
             have c191b0 : decide (0 ≤ a1_5) = true := decide_eq_true c191
             clear c191
             by_cases c192 : a1_5 < (t142.length : Int)
             ·rw [if_pos c192] at H
              have c192b0 : decide (a1_5 < (t142.length : Int)) = true := decide_eq_true c192
              clear c192
              obtain ⟨y174, hy174⟩ : ∃ y_ : List Int, y_ = (y173.set (a1_5 : Int).toNat 0) := ⟨_, rfl⟩
              replace H : (some (t141, y174, t145, t148)) = some (r1, r2, r3, r4) := by first | (rw [hy174]; with_reducible exact H) | (have H2_ := (Option.bind_some _ _).symm.trans H; rw [hy174]; with_reducible exact H2_) | (have H2_ := (Option.bind_some _ _).symm.trans H; with_reducible exact H2_) | with_reducible exact H | (rw [hy174]; exact H) | exact H
              have Ny174 := qM hy174
              clear hy174
              simp only [Option.some.injEq, Prod.mk.injEq] at H
              obtain ⟨rfl, rfl, rfl, rfl⟩ := H
              have hnb194 := NB135_136.out
              have hnc194 := NB136_135.out
              have hnb195 := NB135_137.out
              have hnc195 := NB137_135.out
              have hcz196_0 : wc.cell? ⟨gb135, 0, none⟩ = some (.int .i64 a0_0) := (zC BK135.out 0).trans rfl
              have hcz196_1 : wc.cell? ⟨gb135, 1, none⟩ = some (.slice A0_1 l0_1.length c0_1) := (zC BK135.out 1).trans rfl
              have hcz196_2 : wc.cell? ⟨gb135, 2, none⟩ = some (.slice A0_2 l0_2.length c0_2) := (zC BK135.out 2).trans rfl
              have hcz196_3 : wc.cell? ⟨gb135, 3, none⟩ = some (.int .i64 a0_3) := (zC BK135.out 3).trans rfl
              have hfz196_0 := zF BK135.out 0
              have hfz196_1 := zF BK135.out 1
              have hfz196_2 := zF BK135.out 2
              have hfz196_3 := zF BK135.out 3
              go_wp2_with (first | ((with_reducible refine gate_callee (f := 55) rfl ?_); refine goesL_ (some 26) rfl rfl Try.func55 (by kernel_rfl) rfl #[.agg #[.int .i64 a0_0, .slice A0_1 l0_1.length c0_1, .slice A0_2 l0_2.length c0_2, .int .i64 a0_3]] rfl (by (try simp only [List.map_toArray, List.map_cons, List.map_nil]); first | done | rfl | (simp only [List.length_drop, List.length_take]; rfl)) ?_; (with_reducible refine (spec_l6Copy.calls a0_0 _ _ l0_1 _ _ l0_2 a0_3 t141 t142 t145 t148 _ ?side1 ?side2 ?side3 ?side4 A36.out).mono ?_); (case side1 => repeat (first | exact (Kd.C_below HR0_1.out HB.out) | (with_reducible refine Kd.C_alloc ?_ _) | (with_reducible refine Kd.C_drewN ?_ _) | (with_reducible refine Kd.C_drew ?_))); (case side2 => exact HC0_1.out); (case side3 => repeat (first | exact (Kd.C_below HR0_2.out HB.out) | (with_reducible refine Kd.C_alloc ?_ _) | (with_reducible refine Kd.C_drewN ?_ _) | (with_reducible refine Kd.C_drew ?_))); (case side4 => exact HC0_2.out); rintro e w197 ⟨v143, v146, rfl, ho0, ho1, hb⟩; refine ⟨_, rfl, ?_⟩; have n0_ := qM (Kd.R_lower ho0 (below_size (yb HB))); have n1_ := qM (Kd.R_lower ho1 (below_size (yb HB))); have n2_ := qM (blk_below (bz BK135) hb); have n3_ := qM (blk_below (bz BK136) hb); have n4_ := qM (blk_below (bz BK137) hb); have n5_ := qM (below_step (yb HB) hb); clear BK135 BK136 BK137 HB; revert n0_ n1_ n2_ n3_ n4_ n5_; intro HO144 HO147 BK135 BK136 BK137 HB; (try clear hb); (try clear hb2); (try clear hk); (try clear hi); (try clear ho0); (try clear ho1)) | ((with_reducible refine gate_dst (N := 9) rfl ?_); (try (refine gate_guard (by rfl) ?_; dsimp only)); refine box_event ?hg (N := 9) ?hd (cs := #[.int .i64 0, .slice none 0 0, .slice none 0 0, .int .i64 0]) (t := 30) ?hr ?_; (case hd => rfl); (case hg => rfl); (case hr => first | (go_simp; done) | (go_simp; rfl)); intro gb149 hg w198 hbox hb; have n0_ := qM (Kd.R_below (qz HO144) hb); have n1_ := qM (Kd.R_below (qz HO147) hb); have n2_ := qM (blk_below (bz BK135) hb); have n3_ := qM (blk_below (bz BK136) hb); have n4_ := qM (blk_below (bz BK137) hb); have n5_ := qM (below_step (yb HB) hb); have n6_ := qM (hbox); have n7_ := qM ((by rw [hg]; exact (below_size (yb HB)) : w.heap.size ≤ gb149)); have n8_ := qM ((by rw [hg]; exact (below_size (yb HB)) : w.heap.size ≤ gb149)); have n9_ := qM ((by rw [hg]; exact Nat.ne_of_lt (blk_lt (bz BK135)) : gb135 ≠ gb149)); have n10_ := qM ((by rw [hg]; exact Nat.ne_of_gt (blk_lt (bz BK135)) : gb149 ≠ gb135)); have n11_ := qM ((by rw [hg]; exact Nat.ne_of_lt (blk_lt (bz BK136)) : gb136 ≠ gb149)); have n12_ := qM ((by rw [hg]; exact Nat.ne_of_gt (blk_lt (bz BK136)) : gb149 ≠ gb136)); have n13_ := qM ((by rw [hg]; exact Nat.ne_of_lt (blk_lt (bz BK137)) : gb137 ≠ gb149)); have n14_ := qM ((by rw [hg]; exact Nat.ne_of_gt (blk_lt (bz BK137)) : gb149 ≠ gb137)); clear HO144 HO147 BK135 BK136 BK137 HB; revert n0_ n1_ n2_ n3_ n4_ n5_ n6_ n7_ n8_ n9_ n10_ n11_ n12_ n13_ n14_; intro HO144 HO147 BK135 BK136 BK137 HB BK149 GW149 GE149 NB135_149 NB149_135 NB136_149 NB149_136 NB137_149 NB149_137; clear hb hbox hg; have hnb199 := NB149_135.out; have hnc199 := NB135_149.out; have hnb200 := NB149_136.out; have hnc200 := NB136_149.out; have hnb201 := NB149_137.out; have hnc201 := NB137_149.out; have hcz202_0 : w198.cell? ⟨gb149, 0, none⟩ = some (.int .i64 0) := (zC BK149.out 0).trans rfl; have hcz202_1 : w198.cell? ⟨gb149, 1, none⟩ = some (.slice none 0 0) := (zC BK149.out 1).trans rfl; have hcz202_2 : w198.cell? ⟨gb149, 2, none⟩ = some (.slice none 0 0) := (zC BK149.out 2).trans rfl; have hcz202_3 : w198.cell? ⟨gb149, 3, none⟩ = some (.int .i64 0) := (zC BK149.out 3).trans rfl; have hfz202_0 := zF BK149.out 0; have hfz202_1 := zF BK149.out 1; have hfz202_2 := zF BK149.out 2; have hfz202_3 := zF BK149.out 3; obtain ⟨Ao203, co203, eo203⟩ := Kd.R_slice HO144.out; subst eo203; obtain ⟨Ao204, co204, eo204⟩ := Kd.R_slice HO147.out; subst eo204) | ((with_reducible refine gate_store (t := 30) (p := 9) rfl ?_); refine store_event (t := 30) (p := 9) (v := ?vo_w205) (w1 := ((((w198.setCell ⟨gb149, 0, none⟩ (.int .i64 t141)).setCell ⟨gb149, 1, none⟩ (.slice Ao203 t142.length co203)).setCell ⟨gb149, 2, none⟩ (.slice Ao204 t145.length co204)).setCell ⟨gb149, 3, none⟩ (.int .i64 t148))) ?hg ?ho ?hn ?hr ?_; (case ho => rfl); (case hg => rfl); (case hn => rfl); (case hr => first | (go_simp; done) | (go_simp; rfl)); intro w205 hw; have n0_ : Aside0 (Kd.R (Kd.int .i64) 3 w205 w.heap.size (fun k_ => some k_ ≠ (.slice Ao204 t145.length co204 : Value).ownBlock) (.slice Ao203 t142.length co203) t142) := ⟨(by rw [hw]; exact (by (with_reducible repeat (first | apply qA | apply qN | apply qD)); exact Kd.R_mono (qF (p := ⟨gb149, 3, none⟩) (qF (p := ⟨gb149, 2, none⟩) (qF (p := ⟨gb149, 1, none⟩) (qF (p := ⟨gb149, 0, none⟩) (Kd.R_types HO144.out BK149.out (by decide)) (fun _ hk => hk.2) (.int .i64 t141)) (fun _ hk => hk.2) (.slice Ao203 t142.length co203)) (fun _ hk => hk.2) (.slice Ao204 t145.length co204)) (fun _ hk => hk.2) (.int .i64 t148)) (fun _ hk => hk.1)))⟩; have n1_ : Aside0 (Kd.R (Kd.int .i64) 3 w205 w.heap.size (fun k_ => some k_ ≠ (.slice Ao203 t142.length co203 : Value).ownBlock) (.slice Ao204 t145.length co204) t145) := ⟨(by rw [hw]; exact (by (with_reducible repeat (first | apply qA | apply qN | apply qD)); exact Kd.R_mono (qF (p := ⟨gb149, 3, none⟩) (qF (p := ⟨gb149, 2, none⟩) (qF (p := ⟨gb149, 1, none⟩) (qF (p := ⟨gb149, 0, none⟩) (Kd.R_types HO147.out BK149.out (by decide)) (fun _ hk => hk.2) (.int .i64 t141)) (fun _ hk => hk.2) (.slice Ao203 t142.length co203)) (fun _ hk => hk.2) (.slice Ao204 t145.length co204)) (fun _ hk => hk.2) (.int .i64 t148)) (fun _ hk => hk.1)))⟩; have n2_ : Aside0 (w205.heap[gb135]? = some (.cells #[.int .i64 a0_0, .slice A0_1 l0_1.length c0_1, .slice A0_2 l0_2.length c0_2, .int .i64 a0_3] 30 (0, 0))) := ⟨(by rw [hw]; exact (by (with_reducible repeat (first | refine zN ?_ _ | refine zD ?_ | refine zA ?_ _)); refine blk_far ?_ NB135_149.out _; (with_reducible repeat (first | refine zN ?_ _ | refine zD ?_ | refine zA ?_ _)); refine blk_far ?_ NB135_149.out _; (with_reducible repeat (first | refine zN ?_ _ | refine zD ?_ | refine zA ?_ _)); refine blk_far ?_ NB135_149.out _; (with_reducible repeat (first | refine zN ?_ _ | refine zD ?_ | refine zA ?_ _)); refine blk_far ?_ NB135_149.out _; (with_reducible repeat (first | refine zN ?_ _ | refine zD ?_ | refine zA ?_ _)); exact BK135.out))⟩; have n3_ : Aside0 (w205.heap[gb136]? = some (.cells #[.int .i64 a1_0, .int .i64 a1_1, .slice A1_2 l1_2.length c1_2, .int .i64 a1_3, .int .i64 a1_4, .int .i64 a1_5] 33 (0, 0))) := ⟨(by rw [hw]; exact (by (with_reducible repeat (first | refine zN ?_ _ | refine zD ?_ | refine zA ?_ _)); refine blk_far ?_ NB136_149.out _; (with_reducible repeat (first | refine zN ?_ _ | refine zD ?_ | refine zA ?_ _)); refine blk_far ?_ NB136_149.out _; (with_reducible repeat (first | refine zN ?_ _ | refine zD ?_ | refine zA ?_ _)); refine blk_far ?_ NB136_149.out _; (with_reducible repeat (first | refine zN ?_ _ | refine zD ?_ | refine zA ?_ _)); refine blk_far ?_ NB136_149.out _; (with_reducible repeat (first | refine zN ?_ _ | refine zD ?_ | refine zA ?_ _)); exact BK136.out))⟩; have n4_ : Aside0 (w205.heap[gb137]? = some (.cells #[.int .i64 0, .slice none 0 0, .slice none 0 0, .int .i64 0] 30 (0, 0))) := ⟨(by rw [hw]; exact (by (with_reducible repeat (first | refine zN ?_ _ | refine zD ?_ | refine zA ?_ _)); refine blk_far ?_ NB137_149.out _; (with_reducible repeat (first | refine zN ?_ _ | refine zD ?_ | refine zA ?_ _)); refine blk_far ?_ NB137_149.out _; (with_reducible repeat (first | refine zN ?_ _ | refine zD ?_ | refine zA ?_ _)); refine blk_far ?_ NB137_149.out _; (with_reducible repeat (first | refine zN ?_ _ | refine zD ?_ | refine zA ?_ _)); refine blk_far ?_ NB137_149.out _; (with_reducible repeat (first | refine zN ?_ _ | refine zD ?_ | refine zA ?_ _)); exact BK137.out))⟩; have n5_ : Aside0 (w205.heap[gb149]? = some (.cells #[.int .i64 t141, .slice Ao203 t142.length co203, .slice Ao204 t145.length co204, .int .i64 t148] 30 (0, 0))) := ⟨(by rw [hw]; exact (by (with_reducible repeat (first | refine zN ?_ _ | refine zD ?_ | refine zA ?_ _)); refine blk_put (cs := #[.int .i64 t141, .slice Ao203 t142.length co203, .slice Ao204 t145.length co204, .int .i64 0]) ?_ 3 _ rfl; (with_reducible repeat (first | refine zN ?_ _ | refine zD ?_ | refine zA ?_ _)); refine blk_put (cs := #[.int .i64 t141, .slice Ao203 t142.length co203, .slice none 0 0, .int .i64 0]) ?_ 2 _ rfl; (with_reducible repeat (first | refine zN ?_ _ | refine zD ?_ | refine zA ?_ _)); refine blk_put (cs := #[.int .i64 t141, .slice none 0 0, .slice none 0 0, .int .i64 0]) ?_ 1 _ rfl; (with_reducible repeat (first | refine zN ?_ _ | refine zD ?_ | refine zA ?_ _)); refine blk_put (cs := #[.int .i64 0, .slice none 0 0, .slice none 0 0, .int .i64 0]) ?_ 0 _ rfl; (with_reducible repeat (first | refine zN ?_ _ | refine zD ?_ | refine zA ?_ _)); exact BK149.out))⟩; have n6_ : Aside0 (Below w.heap.size w w205) := ⟨(by rw [hw]; exact (yb HB))⟩; clear hw HO144 HO147 BK135 BK136 BK137 BK149 HB; revert n0_ n1_ n2_ n3_ n4_ n5_ n6_; intro HO144 HO147 BK135 BK136 BK137 BK149 HB; have hcz206_0 : w205.cell? ⟨gb149, 0, none⟩ = some (.int .i64 t141) := (zC BK149.out 0).trans rfl; have hcz206_1 : w205.cell? ⟨gb149, 1, none⟩ = some (.slice Ao203 t142.length co203) := (zC BK149.out 1).trans rfl; have hcz206_2 : w205.cell? ⟨gb149, 2, none⟩ = some (.slice Ao204 t145.length co204) := (zC BK149.out 2).trans rfl; have hcz206_3 : w205.cell? ⟨gb149, 3, none⟩ = some (.int .i64 t148) := (zC BK149.out 3).trans rfl; have hfz206_0 := zF BK149.out 0; have hfz206_1 := zF BK149.out 1; have hfz206_2 := zF BK149.out 2; have hfz206_3 := zF BK149.out 3; have hnb207 := NB136_137.out; have hnc207 := NB137_136.out; have hcz208_0 : w205.cell? ⟨gb136, 0, none⟩ = some (.int .i64 a1_0) := (zC BK136.out 0).trans rfl; have hcz208_1 : w205.cell? ⟨gb136, 1, none⟩ = some (.int .i64 a1_1) := (zC BK136.out 1).trans rfl; have hcz208_2 : w205.cell? ⟨gb136, 2, none⟩ = some (.slice A1_2 l1_2.length c1_2) := (zC BK136.out 2).trans rfl; have hcz208_3 : w205.cell? ⟨gb136, 3, none⟩ = some (.int .i64 a1_3) := (zC BK136.out 3).trans rfl; have hcz208_4 : w205.cell? ⟨gb136, 4, none⟩ = some (.int .i64 a1_4) := (zC BK136.out 4).trans rfl; have hcz208_5 : w205.cell? ⟨gb136, 5, none⟩ = some (.int .i64 a1_5) := (zC BK136.out 5).trans rfl; have hfz208_0 := zF BK136.out 0; have hfz208_1 := zF BK136.out 1; have hfz208_2 := zF BK136.out 2; have hfz208_3 := zF BK136.out 3; have hfz208_4 := zF BK136.out 4; have hfz208_5 := zF BK136.out 5; have p190 : 0 ≤ (a1_4 : Int) := of_decide_eq_true (by first | (with_reducible assumption) | assumption); have q190 : (a1_4 : Int) < ((t142.length : Int) : Int) := of_decide_eq_true (by first | (with_reducible assumption) | assumption); obtain ⟨go190, co190, eo190, gb190, gl190, cl190, HG190⟩ := Kd.R_form HO144.out (by omega); (first | cases eo190 | (injection eo190 with ea_ en_ ec_; (first | subst ea_ | (injection ea_ with ea_; subst ea_)); subst ec_; clear en_)); have GB190 := qM gb190; have GG190 := qM HG190; clear gb190 gl190 HG190; obtain ⟨hx190_0, hf190_0⟩ := Kd.R_celln 0 HO144.out (a1_4 : Int) p190 q190; replace p190 := eq_true p190; replace q190 := eq_true q190; obtain ⟨hy209_, hz209_⟩ := Kd.R_celln 0 HO144.out (a1_4 : Int) (of_decide_eq_true (by first | (with_reducible assumption) | assumption)) (of_decide_eq_true (by first | (with_reducible assumption) | assumption)); have HP209 := Kd.R_putg HO144.out (a1_4 : Int) 0) | ((with_reducible refine gate_store (t := 3) (p := 91) rfl ?_); refine store_event (t := 3) (p := 91) (v := ?vo_w210) (w1 := (w205.setCell ⟨go190, (a1_4 : Int).toNat, none⟩ (.int .i64 0))) ?hg ?ho ?hn ?hr ?_; (case ho => rfl); (case hg => rfl); (case hn => rfl); (case hr => first | (go_simp; done) | (go_simp; rfl)); intro w210 hw; have hg : w205.grownBy w210 (some go190) := (by rw [hw]; exact HP209.2); have hp_ : Kd.R (Kd.int .i64) 3 w210 w.heap.size (fun k_ => some k_ ≠ (.slice Ao204 t145.length co204 : Value).ownBlock) (.slice (some ⟨go190, 0, none⟩) t142.length co203) y173 := (by rw [hw, Ny173.out]; exact HP209.1); clear HP209; have n0_ := qM (blk_grown (g := gb135) (o := .cells #[.int .i64 a0_0, .slice A0_1 l0_1.length c0_1, .slice A0_2 l0_2.length c0_2, .int .i64 a0_3] 30 (0, 0)) (bz BK135) hg (Kd.R_ne HO144.out BK135.out (by decide))); have n1_ := qM (blk_grown (g := gb136) (o := .cells #[.int .i64 a1_0, .int .i64 a1_1, .slice A1_2 l1_2.length c1_2, .int .i64 a1_3, .int .i64 a1_4, .int .i64 a1_5] 33 (0, 0)) (bz BK136) hg (Kd.R_ne HO144.out BK136.out (by decide))); have n2_ := qM (blk_grown (g := gb137) (o := .cells #[.int .i64 0, .slice none 0 0, .slice none 0 0, .int .i64 0] 30 (0, 0)) (bz BK137) hg (Kd.R_ne HO144.out BK137.out (by decide))); have n3_ := qM (hp_); have n4_ := qM (Kd.R_after (v := (.slice (some ⟨go190, 0, none⟩) t142.length co203)) (v1 := (.slice (some ⟨go190, 0, none⟩) t142.length co203)) (ok := (fun _ => True)) (by (with_reducible repeat (first | apply qA | apply qN | apply qD)); exact Kd.R_mono HO147.out (fun _ hk => ⟨trivial, hk⟩)) hg (.inl rfl)); have n5_ := qM (blk_grown (g := gb149) (o := .cells #[.int .i64 t141, .slice (some ⟨go190, 0, none⟩) t142.length co203, .slice Ao204 t145.length co204, .int .i64 t148] 30 (0, 0)) (bz BK149) hg (Kd.R_ne HO144.out BK149.out (by decide))); have n6_ := qM ((by rw [hw]; exact yS (HB.out) GB190.out : Below w.heap.size w w210)); clear BK135 BK136 BK137 HO144 HO147 BK149 HB; revert n0_ n1_ n2_ n3_ n4_ n5_ n6_; intro BK135 BK136 BK137 HO144 HO147 BK149 HB; clear hg hw hp_; have hcz211_0 : w210.cell? ⟨gb149, 0, none⟩ = some (.int .i64 t141) := (zC BK149.out 0).trans rfl; have hcz211_1 : w210.cell? ⟨gb149, 1, none⟩ = some (.slice (some ⟨go190, 0, none⟩) t142.length co203) := (zC BK149.out 1).trans rfl; have hcz211_2 : w210.cell? ⟨gb149, 2, none⟩ = some (.slice Ao204 t145.length co204) := (zC BK149.out 2).trans rfl; have hcz211_3 : w210.cell? ⟨gb149, 3, none⟩ = some (.int .i64 t148) := (zC BK149.out 3).trans rfl; have hfz211_0 := zF BK149.out 0; have hfz211_1 := zF BK149.out 1; have hfz211_2 := zF BK149.out 2; have hfz211_3 := zF BK149.out 3; have hcz212_0 : w210.cell? ⟨gb136, 0, none⟩ = some (.int .i64 a1_0) := (zC BK136.out 0).trans rfl; have hcz212_1 : w210.cell? ⟨gb136, 1, none⟩ = some (.int .i64 a1_1) := (zC BK136.out 1).trans rfl; have hcz212_2 : w210.cell? ⟨gb136, 2, none⟩ = some (.slice A1_2 l1_2.length c1_2) := (zC BK136.out 2).trans rfl; have hcz212_3 : w210.cell? ⟨gb136, 3, none⟩ = some (.int .i64 a1_3) := (zC BK136.out 3).trans rfl; have hcz212_4 : w210.cell? ⟨gb136, 4, none⟩ = some (.int .i64 a1_4) := (zC BK136.out 4).trans rfl; have hcz212_5 : w210.cell? ⟨gb136, 5, none⟩ = some (.int .i64 a1_5) := (zC BK136.out 5).trans rfl; have hfz212_0 := zF BK136.out 0; have hfz212_1 := zF BK136.out 1; have hfz212_2 := zF BK136.out 2; have hfz212_3 := zF BK136.out 3; have hfz212_4 := zF BK136.out 4; have hfz212_5 := zF BK136.out 5; have p193 : 0 ≤ (a1_5 : Int) := of_decide_eq_true (by first | (with_reducible assumption) | assumption); have q193 : (a1_5 : Int) < ((t142.length : Int) : Int) := of_decide_eq_true (by first | (with_reducible assumption) | assumption); obtain ⟨hx193_0, hf193_0⟩ := Kd.R_celln 0 HO144.out (a1_5 : Int) p193 q193; replace p193 := eq_true p193; replace q193 := eq_true q193; obtain ⟨hy213_, hz213_⟩ := Kd.R_celln 0 HO144.out (a1_5 : Int) (of_decide_eq_true (by first | (with_reducible assumption) | assumption)) (of_decide_eq_true (by first | (with_reducible assumption) | assumption)); have HP213 := Kd.R_putg HO144.out (a1_5 : Int) 0) | ((with_reducible refine gate_store (t := 3) (p := 97) rfl ?_); refine store_event (t := 3) (p := 97) (v := ?vo_w214) (w1 := (w210.setCell ⟨go190, (a1_5 : Int).toNat, none⟩ (.int .i64 0))) ?hg ?ho ?hn ?hr ?_; (case ho => rfl); (case hg => rfl); (case hn => rfl); (case hr => first | (go_simp; done) | (go_simp; rfl)); intro w214 hw; have hg : w210.grownBy w214 (some go190) := (by rw [hw]; exact HP213.2); have hp_ : Kd.R (Kd.int .i64) 3 w214 w.heap.size (fun k_ => some k_ ≠ (.slice Ao204 t145.length co204 : Value).ownBlock) (.slice (some ⟨go190, 0, none⟩) t142.length co203) y174 := (by rw [hw, Ny174.out]; exact HP213.1); clear HP213; have n0_ := qM (blk_grown (g := gb135) (o := .cells #[.int .i64 a0_0, .slice A0_1 l0_1.length c0_1, .slice A0_2 l0_2.length c0_2, .int .i64 a0_3] 30 (0, 0)) (bz BK135) hg (Kd.R_ne HO144.out BK135.out (by decide))); have n1_ := qM (blk_grown (g := gb136) (o := .cells #[.int .i64 a1_0, .int .i64 a1_1, .slice A1_2 l1_2.length c1_2, .int .i64 a1_3, .int .i64 a1_4, .int .i64 a1_5] 33 (0, 0)) (bz BK136) hg (Kd.R_ne HO144.out BK136.out (by decide))); have n2_ := qM (blk_grown (g := gb137) (o := .cells #[.int .i64 0, .slice none 0 0, .slice none 0 0, .int .i64 0] 30 (0, 0)) (bz BK137) hg (Kd.R_ne HO144.out BK137.out (by decide))); have n3_ := qM (hp_); have n4_ := qM (Kd.R_after (v := (.slice (some ⟨go190, 0, none⟩) t142.length co203)) (v1 := (.slice (some ⟨go190, 0, none⟩) t142.length co203)) (ok := (fun _ => True)) (qz HO147) hg (.inl rfl)); have n5_ := qM (blk_grown (g := gb149) (o := .cells #[.int .i64 t141, .slice (some ⟨go190, 0, none⟩) t142.length co203, .slice Ao204 t145.length co204, .int .i64 t148] 30 (0, 0)) (bz BK149) hg (Kd.R_ne HO144.out BK149.out (by decide))); have n6_ := qM ((by rw [hw]; exact yS (HB.out) GB190.out : Below w.heap.size w w214)); clear BK135 BK136 BK137 HO144 HO147 BK149 HB; revert n0_ n1_ n2_ n3_ n4_ n5_ n6_; intro BK135 BK136 BK137 HO144 HO147 BK149 HB; clear hg hw hp_; have hcz215_0 : w214.cell? ⟨gb149, 0, none⟩ = some (.int .i64 t141) := (zC BK149.out 0).trans rfl; have hcz215_1 : w214.cell? ⟨gb149, 1, none⟩ = some (.slice (some ⟨go190, 0, none⟩) t142.length co203) := (zC BK149.out 1).trans rfl; have hcz215_2 : w214.cell? ⟨gb149, 2, none⟩ = some (.slice Ao204 t145.length co204) := (zC BK149.out 2).trans rfl; have hcz215_3 : w214.cell? ⟨gb149, 3, none⟩ = some (.int .i64 t148) := (zC BK149.out 3).trans rfl; have hfz215_0 := zF BK149.out 0; have hfz215_1 := zF BK149.out 1; have hfz215_2 := zF BK149.out 2; have hfz215_3 := zF BK149.out 3; have hcz216_0 : w214.cell? ⟨gb137, 0, none⟩ = some (.int .i64 0) := (zC BK137.out 0).trans rfl; have hcz216_1 : w214.cell? ⟨gb137, 1, none⟩ = some (.slice none 0 0) := (zC BK137.out 1).trans rfl; have hcz216_2 : w214.cell? ⟨gb137, 2, none⟩ = some (.slice none 0 0) := (zC BK137.out 2).trans rfl; have hcz216_3 : w214.cell? ⟨gb137, 3, none⟩ = some (.int .i64 0) := (zC BK137.out 3).trans rfl; have hfz216_0 := zF BK137.out 0; have hfz216_1 := zF BK137.out 1; have hfz216_2 := zF BK137.out 2; have hfz216_3 := zF BK137.out 3))
              refine bodyPost_ret (results_cell_row rfl _ _ gb137 30 #[.int .i64 t141, .slice (some ⟨go190, 0, none⟩) t142.length co203, .slice Ao204 t145.length co204, .int .i64 t148] (0, 0) _ rfl (by (with_reducible repeat (first | refine zN ?_ _ | refine zD ?_ | refine zA ?_ _)); refine blk_put (cs := #[.int .i64 t141, .slice (some ⟨go190, 0, none⟩) t142.length co203, .slice Ao204 t145.length co204, .int .i64 0]) ?_ 3 _ rfl; (with_reducible repeat (first | refine zN ?_ _ | refine zD ?_ | refine zA ?_ _)); refine blk_put (cs := #[.int .i64 t141, .slice (some ⟨go190, 0, none⟩) t142.length co203, .slice none 0 0, .int .i64 0]) ?_ 2 _ rfl; (with_reducible repeat (first | refine zN ?_ _ | refine zD ?_ | refine zA ?_ _)); refine blk_put (cs := #[.int .i64 t141, .slice none 0 0, .slice none 0 0, .int .i64 0]) ?_ 1 _ rfl; (with_reducible repeat (first | refine zN ?_ _ | refine zD ?_ | refine zA ?_ _)); refine blk_put (cs := #[.int .i64 0, .slice none 0 0, .slice none 0 0, .int .i64 0]) ?_ 0 _ rfl; (with_reducible repeat (first | refine zN ?_ _ | refine zD ?_ | refine zA ?_ _)); exact BK137.out) Try.underlying30 rfl (by kernel_rfl)) rfl ?_
              exact ⟨_, _, by first | rfl | (simp [errW_none, errW_some] <;> rfl) | (simp [*, errW_none, errW_some] <;> rfl), by (with_reducible repeat (first | apply qA | apply qN | apply qD)); exact Kd.R_mono (qF (p := ⟨gb137, 3, none⟩) (qF (p := ⟨gb137, 2, none⟩) (qF (p := ⟨gb137, 1, none⟩) (qF (p := ⟨gb137, 0, none⟩) (Kd.R_types HO144.out BK137.out (by decide)) (fun _ hk => hk.2) (.int .i64 t141)) (fun _ hk => hk.2) (.slice (some ⟨go190, 0, none⟩) t142.length co203)) (fun _ hk => hk.2) (.slice Ao204 t145.length co204)) (fun _ hk => hk.2) (.int .i64 t148)) (fun _ hk => hk.1), by (with_reducible repeat (first | apply qA | apply qN | apply qD)); exact Kd.R_mono (qF (p := ⟨gb137, 3, none⟩) (qF (p := ⟨gb137, 2, none⟩) (qF (p := ⟨gb137, 1, none⟩) (qF (p := ⟨gb137, 0, none⟩) (Kd.R_types HO147.out BK137.out (by decide)) (fun _ hk => hk.2) (.int .i64 t141)) (fun _ hk => hk.2) (.slice (some ⟨go190, 0, none⟩) t142.length co203)) (fun _ hk => hk.2) (.slice Ao204 t145.length co204)) (fun _ hk => hk.2) (.int .i64 t148)) (fun _ hk => hk.1.2), by repeat (first | (with_reducible first | exact HB.out | apply yA | apply yN | apply yD | refine yS ?_ GE135.out | refine yS ?_ GE136.out | refine yS ?_ GE137.out | refine yS ?_ GE149.out) | exact HB.out)⟩
             ·rw [if_neg c192] at H
              exact absurd H (by simp)
            ·rw [if_neg c191] at H
             exact absurd H (by simp)
           ·rw [if_neg c189] at H
            exact absurd H (by simp)
          ·rw [if_neg c188] at H
           exact absurd H (by simp)
        ·replace c156 := Bool.eq_false_iff.mpr c156
         subst c156
         have H1 : (if 0 ≤ a1_4 then (if a1_4 < (t142.length : Int) then (if 0 ≤ a1_5 then (if a1_5 < (t142.length : Int) then (some (t141, ((t142.set (a1_4 : Int).toNat 0).set (a1_5 : Int).toNat 0), t145, t148)) else (none)) else (none)) else (none)) else (none)) = some (r1, r2, r3, r4) := by rw [if_neg (show ¬ (false = true) by decide)] at H; exact H
         clear H
         have H := H1
         clear H1
         by_cases c217 : 0 ≤ a1_4
         ·rw [if_pos c217] at H
          have c217b0 : decide (0 ≤ a1_4) = true := decide_eq_true c217
          clear c217
          by_cases c218 : a1_4 < (t142.length : Int)
          ·rw [if_pos c218] at H
           have c218b0 : decide (a1_4 < (t142.length : Int)) = true := decide_eq_true c218
           clear c218
           obtain ⟨y175, hy175⟩ : ∃ y_ : List Int, y_ = (t142.set (a1_4 : Int).toNat 0) := ⟨_, rfl⟩
           replace H : (if 0 ≤ a1_5 then (if a1_5 < (t142.length : Int) then (some (t141, (y175.set (a1_5 : Int).toNat 0), t145, t148)) else (none)) else (none)) = some (r1, r2, r3, r4) := by first | (rw [hy175]; with_reducible exact H) | (have H2_ := (Option.bind_some _ _).symm.trans H; rw [hy175]; with_reducible exact H2_) | (have H2_ := (Option.bind_some _ _).symm.trans H; with_reducible exact H2_) | with_reducible exact H | (rw [hy175]; exact H) | exact H
           have Ny175 := qM hy175
           clear hy175
           by_cases c220 : 0 ≤ a1_5
           ·rw [if_pos c220] at H
            have c220b0 : decide (0 ≤ a1_5) = true := decide_eq_true c220
            clear c220
            by_cases c221 : a1_5 < (t142.length : Int)
            ·rw [if_pos c221] at H
             have c221b0 : decide (a1_5 < (t142.length : Int)) = true := decide_eq_true c221
             clear c221
             obtain ⟨y176, hy176⟩ : ∃ y_ : List Int, y_ = (y175.set (a1_5 : Int).toNat 0) := ⟨_, rfl⟩
             replace H : (some (t141, y176, t145, t148)) = some (r1, r2, r3, r4) := by first | (rw [hy176]; with_reducible exact H) | (have H2_ := (Option.bind_some _ _).symm.trans H; rw [hy176]; with_reducible exact H2_) | (have H2_ := (Option.bind_some _ _).symm.trans H; with_reducible exact H2_) | with_reducible exact H | (rw [hy176]; exact H) | exact H
             have Ny176 := qM hy176
             clear hy176
             simp only [Option.some.injEq, Prod.mk.injEq] at H
             obtain ⟨rfl, rfl, rfl, rfl⟩ := H
             have hnb223 := NB135_136.out
             have hnc223 := NB136_135.out
             have hnb224 := NB135_137.out
             have hnc224 := NB137_135.out
             have hcz225_0 : wc.cell? ⟨gb135, 0, none⟩ = some (.int .i64 a0_0) := (zC BK135.out 0).trans rfl
             have hcz225_1 : wc.cell? ⟨gb135, 1, none⟩ = some (.slice A0_1 l0_1.length c0_1) := (zC BK135.out 1).trans rfl
             have hcz225_2 : wc.cell? ⟨gb135, 2, none⟩ = some (.slice A0_2 l0_2.length c0_2) := (zC BK135.out 2).trans rfl
             have hcz225_3 : wc.cell? ⟨gb135, 3, none⟩ = some (.int .i64 a0_3) := (zC BK135.out 3).trans rfl
             have hfz225_0 := zF BK135.out 0
             have hfz225_1 := zF BK135.out 1
             have hfz225_2 := zF BK135.out 2
             have hfz225_3 := zF BK135.out 3
             go_wp2_with (first | ((with_reducible refine gate_callee (f := 55) rfl ?_); refine goesL_ (some 26) rfl rfl Try.func55 (by kernel_rfl) rfl #[.agg #[.int .i64 a0_0, .slice A0_1 l0_1.length c0_1, .slice A0_2 l0_2.length c0_2, .int .i64 a0_3]] rfl (by (try simp only [List.map_toArray, List.map_cons, List.map_nil]); first | done | rfl | (simp only [List.length_drop, List.length_take]; rfl)) ?_; (with_reducible refine (spec_l6Copy.calls a0_0 _ _ l0_1 _ _ l0_2 a0_3 t141 t142 t145 t148 _ ?side1 ?side2 ?side3 ?side4 A36.out).mono ?_); (case side1 => repeat (first | exact (Kd.C_below HR0_1.out HB.out) | (with_reducible refine Kd.C_alloc ?_ _) | (with_reducible refine Kd.C_drewN ?_ _) | (with_reducible refine Kd.C_drew ?_))); (case side2 => exact HC0_1.out); (case side3 => repeat (first | exact (Kd.C_below HR0_2.out HB.out) | (with_reducible refine Kd.C_alloc ?_ _) | (with_reducible refine Kd.C_drewN ?_ _) | (with_reducible refine Kd.C_drew ?_))); (case side4 => exact HC0_2.out); rintro e w226 ⟨v143, v146, rfl, ho0, ho1, hb⟩; refine ⟨_, rfl, ?_⟩; have n0_ := qM (Kd.R_lower ho0 (below_size (yb HB))); have n1_ := qM (Kd.R_lower ho1 (below_size (yb HB))); have n2_ := qM (blk_below (bz BK135) hb); have n3_ := qM (blk_below (bz BK136) hb); have n4_ := qM (blk_below (bz BK137) hb); have n5_ := qM (below_step (yb HB) hb); clear BK135 BK136 BK137 HB; revert n0_ n1_ n2_ n3_ n4_ n5_; intro HO144 HO147 BK135 BK136 BK137 HB; (try clear hb); (try clear hb2); (try clear hk); (try clear hi); (try clear ho0); (try clear ho1)) | ((with_reducible refine gate_dst (N := 9) rfl ?_); (try (refine gate_guard (by rfl) ?_; dsimp only)); refine box_event ?hg (N := 9) ?hd (cs := #[.int .i64 0, .slice none 0 0, .slice none 0 0, .int .i64 0]) (t := 30) ?hr ?_; (case hd => rfl); (case hg => rfl); (case hr => first | (go_simp; done) | (go_simp; rfl)); intro gb149 hg w227 hbox hb; have n0_ := qM (Kd.R_below (qz HO144) hb); have n1_ := qM (Kd.R_below (qz HO147) hb); have n2_ := qM (blk_below (bz BK135) hb); have n3_ := qM (blk_below (bz BK136) hb); have n4_ := qM (blk_below (bz BK137) hb); have n5_ := qM (below_step (yb HB) hb); have n6_ := qM (hbox); have n7_ := qM ((by rw [hg]; exact (below_size (yb HB)) : w.heap.size ≤ gb149)); have n8_ := qM ((by rw [hg]; exact (below_size (yb HB)) : w.heap.size ≤ gb149)); have n9_ := qM ((by rw [hg]; exact Nat.ne_of_lt (blk_lt (bz BK135)) : gb135 ≠ gb149)); have n10_ := qM ((by rw [hg]; exact Nat.ne_of_gt (blk_lt (bz BK135)) : gb149 ≠ gb135)); have n11_ := qM ((by rw [hg]; exact Nat.ne_of_lt (blk_lt (bz BK136)) : gb136 ≠ gb149)); have n12_ := qM ((by rw [hg]; exact Nat.ne_of_gt (blk_lt (bz BK136)) : gb149 ≠ gb136)); have n13_ := qM ((by rw [hg]; exact Nat.ne_of_lt (blk_lt (bz BK137)) : gb137 ≠ gb149)); have n14_ := qM ((by rw [hg]; exact Nat.ne_of_gt (blk_lt (bz BK137)) : gb149 ≠ gb137)); clear HO144 HO147 BK135 BK136 BK137 HB; revert n0_ n1_ n2_ n3_ n4_ n5_ n6_ n7_ n8_ n9_ n10_ n11_ n12_ n13_ n14_; intro HO144 HO147 BK135 BK136 BK137 HB BK149 GW149 GE149 NB135_149 NB149_135 NB136_149 NB149_136 NB137_149 NB149_137; clear hb hbox hg; have hnb228 := NB149_135.out; have hnc228 := NB135_149.out; have hnb229 := NB149_136.out; have hnc229 := NB136_149.out; have hnb230 := NB149_137.out; have hnc230 := NB137_149.out; have hcz231_0 : w227.cell? ⟨gb149, 0, none⟩ = some (.int .i64 0) := (zC BK149.out 0).trans rfl; have hcz231_1 : w227.cell? ⟨gb149, 1, none⟩ = some (.slice none 0 0) := (zC BK149.out 1).trans rfl; have hcz231_2 : w227.cell? ⟨gb149, 2, none⟩ = some (.slice none 0 0) := (zC BK149.out 2).trans rfl; have hcz231_3 : w227.cell? ⟨gb149, 3, none⟩ = some (.int .i64 0) := (zC BK149.out 3).trans rfl; have hfz231_0 := zF BK149.out 0; have hfz231_1 := zF BK149.out 1; have hfz231_2 := zF BK149.out 2; have hfz231_3 := zF BK149.out 3; obtain ⟨Ao232, co232, eo232⟩ := Kd.R_slice HO144.out; subst eo232; obtain ⟨Ao233, co233, eo233⟩ := Kd.R_slice HO147.out; subst eo233) | ((with_reducible refine gate_store (t := 30) (p := 9) rfl ?_); refine store_event (t := 30) (p := 9) (v := ?vo_w234) (w1 := ((((w227.setCell ⟨gb149, 0, none⟩ (.int .i64 t141)).setCell ⟨gb149, 1, none⟩ (.slice Ao232 t142.length co232)).setCell ⟨gb149, 2, none⟩ (.slice Ao233 t145.length co233)).setCell ⟨gb149, 3, none⟩ (.int .i64 t148))) ?hg ?ho ?hn ?hr ?_; (case ho => rfl); (case hg => rfl); (case hn => rfl); (case hr => first | (go_simp; done) | (go_simp; rfl)); intro w234 hw; have n0_ : Aside0 (Kd.R (Kd.int .i64) 3 w234 w.heap.size (fun k_ => some k_ ≠ (.slice Ao233 t145.length co233 : Value).ownBlock) (.slice Ao232 t142.length co232) t142) := ⟨(by rw [hw]; exact (by (with_reducible repeat (first | apply qA | apply qN | apply qD)); exact Kd.R_mono (qF (p := ⟨gb149, 3, none⟩) (qF (p := ⟨gb149, 2, none⟩) (qF (p := ⟨gb149, 1, none⟩) (qF (p := ⟨gb149, 0, none⟩) (Kd.R_types HO144.out BK149.out (by decide)) (fun _ hk => hk.2) (.int .i64 t141)) (fun _ hk => hk.2) (.slice Ao232 t142.length co232)) (fun _ hk => hk.2) (.slice Ao233 t145.length co233)) (fun _ hk => hk.2) (.int .i64 t148)) (fun _ hk => hk.1)))⟩; have n1_ : Aside0 (Kd.R (Kd.int .i64) 3 w234 w.heap.size (fun k_ => some k_ ≠ (.slice Ao232 t142.length co232 : Value).ownBlock) (.slice Ao233 t145.length co233) t145) := ⟨(by rw [hw]; exact (by (with_reducible repeat (first | apply qA | apply qN | apply qD)); exact Kd.R_mono (qF (p := ⟨gb149, 3, none⟩) (qF (p := ⟨gb149, 2, none⟩) (qF (p := ⟨gb149, 1, none⟩) (qF (p := ⟨gb149, 0, none⟩) (Kd.R_types HO147.out BK149.out (by decide)) (fun _ hk => hk.2) (.int .i64 t141)) (fun _ hk => hk.2) (.slice Ao232 t142.length co232)) (fun _ hk => hk.2) (.slice Ao233 t145.length co233)) (fun _ hk => hk.2) (.int .i64 t148)) (fun _ hk => hk.1)))⟩; have n2_ : Aside0 (w234.heap[gb135]? = some (.cells #[.int .i64 a0_0, .slice A0_1 l0_1.length c0_1, .slice A0_2 l0_2.length c0_2, .int .i64 a0_3] 30 (0, 0))) := ⟨(by rw [hw]; exact (by (with_reducible repeat (first | refine zN ?_ _ | refine zD ?_ | refine zA ?_ _)); refine blk_far ?_ NB135_149.out _; (with_reducible repeat (first | refine zN ?_ _ | refine zD ?_ | refine zA ?_ _)); refine blk_far ?_ NB135_149.out _; (with_reducible repeat (first | refine zN ?_ _ | refine zD ?_ | refine zA ?_ _)); refine blk_far ?_ NB135_149.out _; (with_reducible repeat (first | refine zN ?_ _ | refine zD ?_ | refine zA ?_ _)); refine blk_far ?_ NB135_149.out _; (with_reducible repeat (first | refine zN ?_ _ | refine zD ?_ | refine zA ?_ _)); exact BK135.out))⟩; have n3_ : Aside0 (w234.heap[gb136]? = some (.cells #[.int .i64 a1_0, .int .i64 a1_1, .slice A1_2 l1_2.length c1_2, .int .i64 a1_3, .int .i64 a1_4, .int .i64 a1_5] 33 (0, 0))) := ⟨(by rw [hw]; exact (by (with_reducible repeat (first | refine zN ?_ _ | refine zD ?_ | refine zA ?_ _)); refine blk_far ?_ NB136_149.out _; (with_reducible repeat (first | refine zN ?_ _ | refine zD ?_ | refine zA ?_ _)); refine blk_far ?_ NB136_149.out _; (with_reducible repeat (first | refine zN ?_ _ | refine zD ?_ | refine zA ?_ _)); refine blk_far ?_ NB136_149.out _; (with_reducible repeat (first | refine zN ?_ _ | refine zD ?_ | refine zA ?_ _)); refine blk_far ?_ NB136_149.out _; (with_reducible repeat (first | refine zN ?_ _ | refine zD ?_ | refine zA ?_ _)); exact BK136.out))⟩; have n4_ : Aside0 (w234.heap[gb137]? = some (.cells #[.int .i64 0, .slice none 0 0, .slice none 0 0, .int .i64 0] 30 (0, 0))) := ⟨(by rw [hw]; exact (by (with_reducible repeat (first | refine zN ?_ _ | refine zD ?_ | refine zA ?_ _)); refine blk_far ?_ NB137_149.out _; (with_reducible repeat (first | refine zN ?_ _ | refine zD ?_ | refine zA ?_ _)); refine blk_far ?_ NB137_149.out _; (with_reducible repeat (first | refine zN ?_ _ | refine zD ?_ | refine zA ?_ _)); refine blk_far ?_ NB137_149.out _; (with_reducible repeat (first | refine zN ?_ _ | refine zD ?_ | refine zA ?_ _)); refine blk_far ?_ NB137_149.out _; (with_reducible repeat (first | refine zN ?_ _ | refine zD ?_ | refine zA ?_ _)); exact BK137.out))⟩; have n5_ : Aside0 (w234.heap[gb149]? = some (.cells #[.int .i64 t141, .slice Ao232 t142.length co232, .slice Ao233 t145.length co233, .int .i64 t148] 30 (0, 0))) := ⟨(by rw [hw]; exact (by (with_reducible repeat (first | refine zN ?_ _ | refine zD ?_ | refine zA ?_ _)); refine blk_put (cs := #[.int .i64 t141, .slice Ao232 t142.length co232, .slice Ao233 t145.length co233, .int .i64 0]) ?_ 3 _ rfl; (with_reducible repeat (first | refine zN ?_ _ | refine zD ?_ | refine zA ?_ _)); refine blk_put (cs := #[.int .i64 t141, .slice Ao232 t142.length co232, .slice none 0 0, .int .i64 0]) ?_ 2 _ rfl; (with_reducible repeat (first | refine zN ?_ _ | refine zD ?_ | refine zA ?_ _)); refine blk_put (cs := #[.int .i64 t141, .slice none 0 0, .slice none 0 0, .int .i64 0]) ?_ 1 _ rfl; (with_reducible repeat (first | refine zN ?_ _ | refine zD ?_ | refine zA ?_ _)); refine blk_put (cs := #[.int .i64 0, .slice none 0 0, .slice none 0 0, .int .i64 0]) ?_ 0 _ rfl; (with_reducible repeat (first | refine zN ?_ _ | refine zD ?_ | refine zA ?_ _)); exact BK149.out))⟩; have n6_ : Aside0 (Below w.heap.size w w234) := ⟨(by rw [hw]; exact (yb HB))⟩; clear hw HO144 HO147 BK135 BK136 BK137 BK149 HB; revert n0_ n1_ n2_ n3_ n4_ n5_ n6_; intro HO144 HO147 BK135 BK136 BK137 BK149 HB; have hcz235_0 : w234.cell? ⟨gb149, 0, none⟩ = some (.int .i64 t141) := (zC BK149.out 0).trans rfl; have hcz235_1 : w234.cell? ⟨gb149, 1, none⟩ = some (.slice Ao232 t142.length co232) := (zC BK149.out 1).trans rfl; have hcz235_2 : w234.cell? ⟨gb149, 2, none⟩ = some (.slice Ao233 t145.length co233) := (zC BK149.out 2).trans rfl; have hcz235_3 : w234.cell? ⟨gb149, 3, none⟩ = some (.int .i64 t148) := (zC BK149.out 3).trans rfl; have hfz235_0 := zF BK149.out 0; have hfz235_1 := zF BK149.out 1; have hfz235_2 := zF BK149.out 2; have hfz235_3 := zF BK149.out 3; have hnb236 := NB136_137.out; have hnc236 := NB137_136.out; have hcz237_0 : w234.cell? ⟨gb136, 0, none⟩ = some (.int .i64 a1_0) := (zC BK136.out 0).trans rfl; have hcz237_1 : w234.cell? ⟨gb136, 1, none⟩ = some (.int .i64 a1_1) := (zC BK136.out 1).trans rfl; have hcz237_2 : w234.cell? ⟨gb136, 2, none⟩ = some (.slice A1_2 l1_2.length c1_2) := (zC BK136.out 2).trans rfl; have hcz237_3 : w234.cell? ⟨gb136, 3, none⟩ = some (.int .i64 a1_3) := (zC BK136.out 3).trans rfl; have hcz237_4 : w234.cell? ⟨gb136, 4, none⟩ = some (.int .i64 a1_4) := (zC BK136.out 4).trans rfl; have hcz237_5 : w234.cell? ⟨gb136, 5, none⟩ = some (.int .i64 a1_5) := (zC BK136.out 5).trans rfl; have hfz237_0 := zF BK136.out 0; have hfz237_1 := zF BK136.out 1; have hfz237_2 := zF BK136.out 2; have hfz237_3 := zF BK136.out 3; have hfz237_4 := zF BK136.out 4; have hfz237_5 := zF BK136.out 5; have p219 : 0 ≤ (a1_4 : Int) := of_decide_eq_true (by first | (with_reducible assumption) | assumption); have q219 : (a1_4 : Int) < ((t142.length : Int) : Int) := of_decide_eq_true (by first | (with_reducible assumption) | assumption); obtain ⟨go219, co219, eo219, gb219, gl219, cl219, HG219⟩ := Kd.R_form HO144.out (by omega); (first | cases eo219 | (injection eo219 with ea_ en_ ec_; (first | subst ea_ | (injection ea_ with ea_; subst ea_)); subst ec_; clear en_)); have GB219 := qM gb219; have GG219 := qM HG219; clear gb219 gl219 HG219; obtain ⟨hx219_0, hf219_0⟩ := Kd.R_celln 0 HO144.out (a1_4 : Int) p219 q219; replace p219 := eq_true p219; replace q219 := eq_true q219; obtain ⟨hy238_, hz238_⟩ := Kd.R_celln 0 HO144.out (a1_4 : Int) (of_decide_eq_true (by first | (with_reducible assumption) | assumption)) (of_decide_eq_true (by first | (with_reducible assumption) | assumption)); have HP238 := Kd.R_putg HO144.out (a1_4 : Int) 0) | ((with_reducible refine gate_store (t := 3) (p := 91) rfl ?_); refine store_event (t := 3) (p := 91) (v := ?vo_w239) (w1 := (w234.setCell ⟨go219, (a1_4 : Int).toNat, none⟩ (.int .i64 0))) ?hg ?ho ?hn ?hr ?_; (case ho => rfl); (case hg => rfl); (case hn => rfl); (case hr => first | (go_simp; done) | (go_simp; rfl)); intro w239 hw; have hg : w234.grownBy w239 (some go219) := (by rw [hw]; exact HP238.2); have hp_ : Kd.R (Kd.int .i64) 3 w239 w.heap.size (fun k_ => some k_ ≠ (.slice Ao233 t145.length co233 : Value).ownBlock) (.slice (some ⟨go219, 0, none⟩) t142.length co232) y175 := (by rw [hw, Ny175.out]; exact HP238.1); clear HP238; have n0_ := qM (blk_grown (g := gb135) (o := .cells #[.int .i64 a0_0, .slice A0_1 l0_1.length c0_1, .slice A0_2 l0_2.length c0_2, .int .i64 a0_3] 30 (0, 0)) (bz BK135) hg (Kd.R_ne HO144.out BK135.out (by decide))); have n1_ := qM (blk_grown (g := gb136) (o := .cells #[.int .i64 a1_0, .int .i64 a1_1, .slice A1_2 l1_2.length c1_2, .int .i64 a1_3, .int .i64 a1_4, .int .i64 a1_5] 33 (0, 0)) (bz BK136) hg (Kd.R_ne HO144.out BK136.out (by decide))); have n2_ := qM (blk_grown (g := gb137) (o := .cells #[.int .i64 0, .slice none 0 0, .slice none 0 0, .int .i64 0] 30 (0, 0)) (bz BK137) hg (Kd.R_ne HO144.out BK137.out (by decide))); have n3_ := qM (hp_); have n4_ := qM (Kd.R_after (v := (.slice (some ⟨go219, 0, none⟩) t142.length co232)) (v1 := (.slice (some ⟨go219, 0, none⟩) t142.length co232)) (ok := (fun _ => True)) (by (with_reducible repeat (first | apply qA | apply qN | apply qD)); exact Kd.R_mono HO147.out (fun _ hk => ⟨trivial, hk⟩)) hg (.inl rfl)); have n5_ := qM (blk_grown (g := gb149) (o := .cells #[.int .i64 t141, .slice (some ⟨go219, 0, none⟩) t142.length co232, .slice Ao233 t145.length co233, .int .i64 t148] 30 (0, 0)) (bz BK149) hg (Kd.R_ne HO144.out BK149.out (by decide))); have n6_ := qM ((by rw [hw]; exact yS (HB.out) GB219.out : Below w.heap.size w w239)); clear BK135 BK136 BK137 HO144 HO147 BK149 HB; revert n0_ n1_ n2_ n3_ n4_ n5_ n6_; intro BK135 BK136 BK137 HO144 HO147 BK149 HB; clear hg hw hp_; have hcz240_0 : w239.cell? ⟨gb149, 0, none⟩ = some (.int .i64 t141) := (zC BK149.out 0).trans rfl; have hcz240_1 : w239.cell? ⟨gb149, 1, none⟩ = some (.slice (some ⟨go219, 0, none⟩) t142.length co232) := (zC BK149.out 1).trans rfl; have hcz240_2 : w239.cell? ⟨gb149, 2, none⟩ = some (.slice Ao233 t145.length co233) := (zC BK149.out 2).trans rfl; have hcz240_3 : w239.cell? ⟨gb149, 3, none⟩ = some (.int .i64 t148) := (zC BK149.out 3).trans rfl; have hfz240_0 := zF BK149.out 0; have hfz240_1 := zF BK149.out 1; have hfz240_2 := zF BK149.out 2; have hfz240_3 := zF BK149.out 3; have hcz241_0 : w239.cell? ⟨gb136, 0, none⟩ = some (.int .i64 a1_0) := (zC BK136.out 0).trans rfl; have hcz241_1 : w239.cell? ⟨gb136, 1, none⟩ = some (.int .i64 a1_1) := (zC BK136.out 1).trans rfl; have hcz241_2 : w239.cell? ⟨gb136, 2, none⟩ = some (.slice A1_2 l1_2.length c1_2) := (zC BK136.out 2).trans rfl; have hcz241_3 : w239.cell? ⟨gb136, 3, none⟩ = some (.int .i64 a1_3) := (zC BK136.out 3).trans rfl; have hcz241_4 : w239.cell? ⟨gb136, 4, none⟩ = some (.int .i64 a1_4) := (zC BK136.out 4).trans rfl; have hcz241_5 : w239.cell? ⟨gb136, 5, none⟩ = some (.int .i64 a1_5) := (zC BK136.out 5).trans rfl; have hfz241_0 := zF BK136.out 0; have hfz241_1 := zF BK136.out 1; have hfz241_2 := zF BK136.out 2; have hfz241_3 := zF BK136.out 3; have hfz241_4 := zF BK136.out 4; have hfz241_5 := zF BK136.out 5; have p222 : 0 ≤ (a1_5 : Int) := of_decide_eq_true (by first | (with_reducible assumption) | assumption); have q222 : (a1_5 : Int) < ((t142.length : Int) : Int) := of_decide_eq_true (by first | (with_reducible assumption) | assumption); obtain ⟨hx222_0, hf222_0⟩ := Kd.R_celln 0 HO144.out (a1_5 : Int) p222 q222; replace p222 := eq_true p222; replace q222 := eq_true q222; obtain ⟨hy242_, hz242_⟩ := Kd.R_celln 0 HO144.out (a1_5 : Int) (of_decide_eq_true (by first | (with_reducible assumption) | assumption)) (of_decide_eq_true (by first | (with_reducible assumption) | assumption)); have HP242 := Kd.R_putg HO144.out (a1_5 : Int) 0) | ((with_reducible refine gate_store (t := 3) (p := 97) rfl ?_); refine store_event (t := 3) (p := 97) (v := ?vo_w243) (w1 := (w239.setCell ⟨go219, (a1_5 : Int).toNat, none⟩ (.int .i64 0))) ?hg ?ho ?hn ?hr ?_; (case ho => rfl); (case hg => rfl); (case hn => rfl); (case hr => first | (go_simp; done) | (go_simp; rfl)); intro w243 hw; have hg : w239.grownBy w243 (some go219) := (by rw [hw]; exact HP242.2); have hp_ : Kd.R (Kd.int .i64) 3 w243 w.heap.size (fun k_ => some k_ ≠ (.slice Ao233 t145.length co233 : Value).ownBlock) (.slice (some ⟨go219, 0, none⟩) t142.length co232) y176 := (by rw [hw, Ny176.out]; exact HP242.1); clear HP242; have n0_ := qM (blk_grown (g := gb135) (o := .cells #[.int .i64 a0_0, .slice A0_1 l0_1.length c0_1, .slice A0_2 l0_2.length c0_2, .int .i64 a0_3] 30 (0, 0)) (bz BK135) hg (Kd.R_ne HO144.out BK135.out (by decide))); have n1_ := qM (blk_grown (g := gb136) (o := .cells #[.int .i64 a1_0, .int .i64 a1_1, .slice A1_2 l1_2.length c1_2, .int .i64 a1_3, .int .i64 a1_4, .int .i64 a1_5] 33 (0, 0)) (bz BK136) hg (Kd.R_ne HO144.out BK136.out (by decide))); have n2_ := qM (blk_grown (g := gb137) (o := .cells #[.int .i64 0, .slice none 0 0, .slice none 0 0, .int .i64 0] 30 (0, 0)) (bz BK137) hg (Kd.R_ne HO144.out BK137.out (by decide))); have n3_ := qM (hp_); have n4_ := qM (Kd.R_after (v := (.slice (some ⟨go219, 0, none⟩) t142.length co232)) (v1 := (.slice (some ⟨go219, 0, none⟩) t142.length co232)) (ok := (fun _ => True)) (qz HO147) hg (.inl rfl)); have n5_ := qM (blk_grown (g := gb149) (o := .cells #[.int .i64 t141, .slice (some ⟨go219, 0, none⟩) t142.length co232, .slice Ao233 t145.length co233, .int .i64 t148] 30 (0, 0)) (bz BK149) hg (Kd.R_ne HO144.out BK149.out (by decide))); have n6_ := qM ((by rw [hw]; exact yS (HB.out) GB219.out : Below w.heap.size w w243)); clear BK135 BK136 BK137 HO144 HO147 BK149 HB; revert n0_ n1_ n2_ n3_ n4_ n5_ n6_; intro BK135 BK136 BK137 HO144 HO147 BK149 HB; clear hg hw hp_; have hcz244_0 : w243.cell? ⟨gb149, 0, none⟩ = some (.int .i64 t141) := (zC BK149.out 0).trans rfl; have hcz244_1 : w243.cell? ⟨gb149, 1, none⟩ = some (.slice (some ⟨go219, 0, none⟩) t142.length co232) := (zC BK149.out 1).trans rfl; have hcz244_2 : w243.cell? ⟨gb149, 2, none⟩ = some (.slice Ao233 t145.length co233) := (zC BK149.out 2).trans rfl; have hcz244_3 : w243.cell? ⟨gb149, 3, none⟩ = some (.int .i64 t148) := (zC BK149.out 3).trans rfl; have hfz244_0 := zF BK149.out 0; have hfz244_1 := zF BK149.out 1; have hfz244_2 := zF BK149.out 2; have hfz244_3 := zF BK149.out 3; have hcz245_0 : w243.cell? ⟨gb137, 0, none⟩ = some (.int .i64 0) := (zC BK137.out 0).trans rfl; have hcz245_1 : w243.cell? ⟨gb137, 1, none⟩ = some (.slice none 0 0) := (zC BK137.out 1).trans rfl; have hcz245_2 : w243.cell? ⟨gb137, 2, none⟩ = some (.slice none 0 0) := (zC BK137.out 2).trans rfl; have hcz245_3 : w243.cell? ⟨gb137, 3, none⟩ = some (.int .i64 0) := (zC BK137.out 3).trans rfl; have hfz245_0 := zF BK137.out 0; have hfz245_1 := zF BK137.out 1; have hfz245_2 := zF BK137.out 2; have hfz245_3 := zF BK137.out 3))
             refine bodyPost_ret (results_cell_row rfl _ _ gb137 30 #[.int .i64 t141, .slice (some ⟨go219, 0, none⟩) t142.length co232, .slice Ao233 t145.length co233, .int .i64 t148] (0, 0) _ rfl (by (with_reducible repeat (first | refine zN ?_ _ | refine zD ?_ | refine zA ?_ _)); refine blk_put (cs := #[.int .i64 t141, .slice (some ⟨go219, 0, none⟩) t142.length co232, .slice Ao233 t145.length co233, .int .i64 0]) ?_ 3 _ rfl; (with_reducible repeat (first | refine zN ?_ _ | refine zD ?_ | refine zA ?_ _)); refine blk_put (cs := #[.int .i64 t141, .slice (some ⟨go219, 0, none⟩) t142.length co232, .slice none 0 0, .int .i64 0]) ?_ 2 _ rfl; (with_reducible repeat (first | refine zN ?_ _ | refine zD ?_ | refine zA ?_ _)); refine blk_put (cs := #[.int .i64 t141, .slice none 0 0, .slice none 0 0, .int .i64 0]) ?_ 1 _ rfl; (with_reducible repeat (first | refine zN ?_ _ | refine zD ?_ | refine zA ?_ _)); refine blk_put (cs := #[.int .i64 0, .slice none 0 0, .slice none 0 0, .int .i64 0]) ?_ 0 _ rfl; (with_reducible repeat (first | refine zN ?_ _ | refine zD ?_ | refine zA ?_ _)); exact BK137.out) Try.underlying30 rfl (by kernel_rfl)) rfl ?_
             exact ⟨_, _, by first | rfl | (simp [errW_none, errW_some] <;> rfl) | (simp [*, errW_none, errW_some] <;> rfl), by (with_reducible repeat (first | apply qA | apply qN | apply qD)); exact Kd.R_mono (qF (p := ⟨gb137, 3, none⟩) (qF (p := ⟨gb137, 2, none⟩) (qF (p := ⟨gb137, 1, none⟩) (qF (p := ⟨gb137, 0, none⟩) (Kd.R_types HO144.out BK137.out (by decide)) (fun _ hk => hk.2) (.int .i64 t141)) (fun _ hk => hk.2) (.slice (some ⟨go219, 0, none⟩) t142.length co232)) (fun _ hk => hk.2) (.slice Ao233 t145.length co233)) (fun _ hk => hk.2) (.int .i64 t148)) (fun _ hk => hk.1), by (with_reducible repeat (first | apply qA | apply qN | apply qD)); exact Kd.R_mono (qF (p := ⟨gb137, 3, none⟩) (qF (p := ⟨gb137, 2, none⟩) (qF (p := ⟨gb137, 1, none⟩) (qF (p := ⟨gb137, 0, none⟩) (Kd.R_types HO147.out BK137.out (by decide)) (fun _ hk => hk.2) (.int .i64 t141)) (fun _ hk => hk.2) (.slice (some ⟨go219, 0, none⟩) t142.length co232)) (fun _ hk => hk.2) (.slice Ao233 t145.length co233)) (fun _ hk => hk.2) (.int .i64 t148)) (fun _ hk => hk.1.2), by repeat (first | (with_reducible first | exact HB.out | apply yA | apply yN | apply yD | refine yS ?_ GE135.out | refine yS ?_ GE136.out | refine yS ?_ GE137.out | refine yS ?_ GE149.out) | exact HB.out)⟩
            ·rw [if_neg c221] at H
             exact absurd H (by simp)
           ·rw [if_neg c220] at H
            exact absurd H (by simp)
          ·rw [if_neg c218] at H
           exact absurd H (by simp)
         ·rw [if_neg c217] at H
          exact absurd H (by simp)
       ·rw [if_neg c155] at H
        have c155b0 : (a1_0 == 3) = false := beq_eq_false_iff_ne.mpr c155
        have c155b1 : (a1_0 != 3) = true := bne_iff_ne.mpr c155
        simp only [Option.some.injEq, Prod.mk.injEq] at H
        obtain ⟨rfl, rfl, rfl, rfl⟩ := H
        have hnb246 := NB135_136.out
        have hnc246 := NB136_135.out
        have hnb247 := NB135_137.out
        have hnc247 := NB137_135.out
        have hcz248_0 : wc.cell? ⟨gb135, 0, none⟩ = some (.int .i64 a0_0) := (zC BK135.out 0).trans rfl
        have hcz248_1 : wc.cell? ⟨gb135, 1, none⟩ = some (.slice A0_1 l0_1.length c0_1) := (zC BK135.out 1).trans rfl
        have hcz248_2 : wc.cell? ⟨gb135, 2, none⟩ = some (.slice A0_2 l0_2.length c0_2) := (zC BK135.out 2).trans rfl
        have hcz248_3 : wc.cell? ⟨gb135, 3, none⟩ = some (.int .i64 a0_3) := (zC BK135.out 3).trans rfl
        have hfz248_0 := zF BK135.out 0
        have hfz248_1 := zF BK135.out 1
        have hfz248_2 := zF BK135.out 2
        have hfz248_3 := zF BK135.out 3
        go_wp2_with (first | ((with_reducible refine gate_callee (f := 55) rfl ?_); refine goesL_ (some 26) rfl rfl Try.func55 (by kernel_rfl) rfl #[.agg #[.int .i64 a0_0, .slice A0_1 l0_1.length c0_1, .slice A0_2 l0_2.length c0_2, .int .i64 a0_3]] rfl (by (try simp only [List.map_toArray, List.map_cons, List.map_nil]); first | done | rfl | (simp only [List.length_drop, List.length_take]; rfl)) ?_; (with_reducible refine (spec_l6Copy.calls a0_0 _ _ l0_1 _ _ l0_2 a0_3 t141 t142 t145 t148 _ ?side1 ?side2 ?side3 ?side4 A36.out).mono ?_); (case side1 => repeat (first | exact (Kd.C_below HR0_1.out HB.out) | (with_reducible refine Kd.C_alloc ?_ _) | (with_reducible refine Kd.C_drewN ?_ _) | (with_reducible refine Kd.C_drew ?_))); (case side2 => exact HC0_1.out); (case side3 => repeat (first | exact (Kd.C_below HR0_2.out HB.out) | (with_reducible refine Kd.C_alloc ?_ _) | (with_reducible refine Kd.C_drewN ?_ _) | (with_reducible refine Kd.C_drew ?_))); (case side4 => exact HC0_2.out); rintro e w249 ⟨v143, v146, rfl, ho0, ho1, hb⟩; refine ⟨_, rfl, ?_⟩; have n0_ := qM (Kd.R_lower ho0 (below_size (yb HB))); have n1_ := qM (Kd.R_lower ho1 (below_size (yb HB))); have n2_ := qM (blk_below (bz BK135) hb); have n3_ := qM (blk_below (bz BK136) hb); have n4_ := qM (blk_below (bz BK137) hb); have n5_ := qM (below_step (yb HB) hb); clear BK135 BK136 BK137 HB; revert n0_ n1_ n2_ n3_ n4_ n5_; intro HO144 HO147 BK135 BK136 BK137 HB; (try clear hb); (try clear hb2); (try clear hk); (try clear hi); (try clear ho0); (try clear ho1)) | ((with_reducible refine gate_dst (N := 9) rfl ?_); (try (refine gate_guard (by rfl) ?_; dsimp only)); refine box_event ?hg (N := 9) ?hd (cs := #[.int .i64 0, .slice none 0 0, .slice none 0 0, .int .i64 0]) (t := 30) ?hr ?_; (case hd => rfl); (case hg => rfl); (case hr => first | (go_simp; done) | (go_simp; rfl)); intro gb149 hg w250 hbox hb; have n0_ := qM (Kd.R_below (qz HO144) hb); have n1_ := qM (Kd.R_below (qz HO147) hb); have n2_ := qM (blk_below (bz BK135) hb); have n3_ := qM (blk_below (bz BK136) hb); have n4_ := qM (blk_below (bz BK137) hb); have n5_ := qM (below_step (yb HB) hb); have n6_ := qM (hbox); have n7_ := qM ((by rw [hg]; exact (below_size (yb HB)) : w.heap.size ≤ gb149)); have n8_ := qM ((by rw [hg]; exact (below_size (yb HB)) : w.heap.size ≤ gb149)); have n9_ := qM ((by rw [hg]; exact Nat.ne_of_lt (blk_lt (bz BK135)) : gb135 ≠ gb149)); have n10_ := qM ((by rw [hg]; exact Nat.ne_of_gt (blk_lt (bz BK135)) : gb149 ≠ gb135)); have n11_ := qM ((by rw [hg]; exact Nat.ne_of_lt (blk_lt (bz BK136)) : gb136 ≠ gb149)); have n12_ := qM ((by rw [hg]; exact Nat.ne_of_gt (blk_lt (bz BK136)) : gb149 ≠ gb136)); have n13_ := qM ((by rw [hg]; exact Nat.ne_of_lt (blk_lt (bz BK137)) : gb137 ≠ gb149)); have n14_ := qM ((by rw [hg]; exact Nat.ne_of_gt (blk_lt (bz BK137)) : gb149 ≠ gb137)); clear HO144 HO147 BK135 BK136 BK137 HB; revert n0_ n1_ n2_ n3_ n4_ n5_ n6_ n7_ n8_ n9_ n10_ n11_ n12_ n13_ n14_; intro HO144 HO147 BK135 BK136 BK137 HB BK149 GW149 GE149 NB135_149 NB149_135 NB136_149 NB149_136 NB137_149 NB149_137; clear hb hbox hg; have hnb251 := NB149_135.out; have hnc251 := NB135_149.out; have hnb252 := NB149_136.out; have hnc252 := NB136_149.out; have hnb253 := NB149_137.out; have hnc253 := NB137_149.out; have hcz254_0 : w250.cell? ⟨gb149, 0, none⟩ = some (.int .i64 0) := (zC BK149.out 0).trans rfl; have hcz254_1 : w250.cell? ⟨gb149, 1, none⟩ = some (.slice none 0 0) := (zC BK149.out 1).trans rfl; have hcz254_2 : w250.cell? ⟨gb149, 2, none⟩ = some (.slice none 0 0) := (zC BK149.out 2).trans rfl; have hcz254_3 : w250.cell? ⟨gb149, 3, none⟩ = some (.int .i64 0) := (zC BK149.out 3).trans rfl; have hfz254_0 := zF BK149.out 0; have hfz254_1 := zF BK149.out 1; have hfz254_2 := zF BK149.out 2; have hfz254_3 := zF BK149.out 3; obtain ⟨Ao255, co255, eo255⟩ := Kd.R_slice HO144.out; subst eo255; obtain ⟨Ao256, co256, eo256⟩ := Kd.R_slice HO147.out; subst eo256; have hnb257 := NB136_137.out; have hnc257 := NB137_136.out; have hcz258_0 : w250.cell? ⟨gb136, 0, none⟩ = some (.int .i64 a1_0) := (zC BK136.out 0).trans rfl; have hcz258_1 : w250.cell? ⟨gb136, 1, none⟩ = some (.int .i64 a1_1) := (zC BK136.out 1).trans rfl; have hcz258_2 : w250.cell? ⟨gb136, 2, none⟩ = some (.slice A1_2 l1_2.length c1_2) := (zC BK136.out 2).trans rfl; have hcz258_3 : w250.cell? ⟨gb136, 3, none⟩ = some (.int .i64 a1_3) := (zC BK136.out 3).trans rfl; have hcz258_4 : w250.cell? ⟨gb136, 4, none⟩ = some (.int .i64 a1_4) := (zC BK136.out 4).trans rfl; have hcz258_5 : w250.cell? ⟨gb136, 5, none⟩ = some (.int .i64 a1_5) := (zC BK136.out 5).trans rfl; have hfz258_0 := zF BK136.out 0; have hfz258_1 := zF BK136.out 1; have hfz258_2 := zF BK136.out 2; have hfz258_3 := zF BK136.out 3; have hfz258_4 := zF BK136.out 4; have hfz258_5 := zF BK136.out 5; have hcz259_0 : w250.cell? ⟨gb137, 0, none⟩ = some (.int .i64 0) := (zC BK137.out 0).trans rfl; have hcz259_1 : w250.cell? ⟨gb137, 1, none⟩ = some (.slice none 0 0) := (zC BK137.out 1).trans rfl; have hcz259_2 : w250.cell? ⟨gb137, 2, none⟩ = some (.slice none 0 0) := (zC BK137.out 2).trans rfl; have hcz259_3 : w250.cell? ⟨gb137, 3, none⟩ = some (.int .i64 0) := (zC BK137.out 3).trans rfl; have hfz259_0 := zF BK137.out 0; have hfz259_1 := zF BK137.out 1; have hfz259_2 := zF BK137.out 2; have hfz259_3 := zF BK137.out 3))
        refine bodyPost_ret (results_cell_row rfl _ _ gb137 30 #[.int .i64 t141, .slice Ao255 t142.length co255, .slice Ao256 t145.length co256, .int .i64 t148] (0, 0) _ rfl (by (with_reducible repeat (first | refine zN ?_ _ | refine zD ?_ | refine zA ?_ _)); refine blk_put (cs := #[.int .i64 t141, .slice Ao255 t142.length co255, .slice Ao256 t145.length co256, .int .i64 0]) ?_ 3 _ rfl; (with_reducible repeat (first | refine zN ?_ _ | refine zD ?_ | refine zA ?_ _)); refine blk_put (cs := #[.int .i64 t141, .slice Ao255 t142.length co255, .slice none 0 0, .int .i64 0]) ?_ 2 _ rfl; (with_reducible repeat (first | refine zN ?_ _ | refine zD ?_ | refine zA ?_ _)); refine blk_put (cs := #[.int .i64 t141, .slice none 0 0, .slice none 0 0, .int .i64 0]) ?_ 1 _ rfl; (with_reducible repeat (first | refine zN ?_ _ | refine zD ?_ | refine zA ?_ _)); refine blk_put (cs := #[.int .i64 0, .slice none 0 0, .slice none 0 0, .int .i64 0]) ?_ 0 _ rfl; (with_reducible repeat (first | refine zN ?_ _ | refine zD ?_ | refine zA ?_ _)); refine blk_far ?_ NB137_149.out _; (with_reducible repeat (first | refine zN ?_ _ | refine zD ?_ | refine zA ?_ _)); refine blk_far ?_ NB137_149.out _; (with_reducible repeat (first | refine zN ?_ _ | refine zD ?_ | refine zA ?_ _)); refine blk_far ?_ NB137_149.out _; (with_reducible repeat (first | refine zN ?_ _ | refine zD ?_ | refine zA ?_ _)); refine blk_far ?_ NB137_149.out _; (with_reducible repeat (first | refine zN ?_ _ | refine zD ?_ | refine zA ?_ _)); exact BK137.out) Try.underlying30 rfl (by kernel_rfl)) rfl ?_
        exact ⟨_, _, by first | rfl | (simp [errW_none, errW_some] <;> rfl) | (simp [*, errW_none, errW_some] <;> rfl), by (with_reducible repeat (first | apply qA | apply qN | apply qD)); exact Kd.R_mono (qF (p := ⟨gb137, 3, none⟩) (qF (p := ⟨gb137, 2, none⟩) (qF (p := ⟨gb137, 1, none⟩) (qF (p := ⟨gb137, 0, none⟩) (qF (p := ⟨gb149, 3, none⟩) (qF (p := ⟨gb149, 2, none⟩) (qF (p := ⟨gb149, 1, none⟩) (qF (p := ⟨gb149, 0, none⟩) (Kd.R_types (Kd.R_types HO144.out BK149.out (by decide)) BK137.out (by decide)) (fun _ hk => hk.1.2) (.int .i64 t141)) (fun _ hk => hk.1.2) (.slice Ao255 t142.length co255)) (fun _ hk => hk.1.2) (.slice Ao256 t145.length co256)) (fun _ hk => hk.1.2) (.int .i64 t148)) (fun _ hk => hk.2) (.int .i64 t141)) (fun _ hk => hk.2) (.slice Ao255 t142.length co255)) (fun _ hk => hk.2) (.slice Ao256 t145.length co256)) (fun _ hk => hk.2) (.int .i64 t148)) (fun _ hk => hk.1.1), by (with_reducible repeat (first | apply qA | apply qN | apply qD)); exact Kd.R_mono (qF (p := ⟨gb137, 3, none⟩) (qF (p := ⟨gb137, 2, none⟩) (qF (p := ⟨gb137, 1, none⟩) (qF (p := ⟨gb137, 0, none⟩) (qF (p := ⟨gb149, 3, none⟩) (qF (p := ⟨gb149, 2, none⟩) (qF (p := ⟨gb149, 1, none⟩) (qF (p := ⟨gb149, 0, none⟩) (Kd.R_types (Kd.R_types HO147.out BK149.out (by decide)) BK137.out (by decide)) (fun _ hk => hk.1.2) (.int .i64 t141)) (fun _ hk => hk.1.2) (.slice Ao255 t142.length co255)) (fun _ hk => hk.1.2) (.slice Ao256 t145.length co256)) (fun _ hk => hk.1.2) (.int .i64 t148)) (fun _ hk => hk.2) (.int .i64 t141)) (fun _ hk => hk.2) (.slice Ao255 t142.length co255)) (fun _ hk => hk.2) (.slice Ao256 t145.length co256)) (fun _ hk => hk.2) (.int .i64 t148)) (fun _ hk => hk.1.1), by repeat (first | (with_reducible first | exact HB.out | apply yA | apply yN | apply yD | refine yS ?_ GE135.out | refine yS ?_ GE136.out | refine yS ?_ GE137.out | refine yS ?_ GE149.out) | exact HB.out)⟩
    ·rw [if_neg c37] at H
     have c37b0 : (t148 == 0) = false := beq_eq_false_iff_ne.mpr c37
     have c37b1 : (t148 != 0) = true := bne_iff_ne.mpr c37
     simp only [Option.some.injEq, Prod.mk.injEq] at H
     obtain ⟨rfl, rfl, rfl, rfl⟩ := H
     have hnb260 := NB135_136.out
     have hnc260 := NB136_135.out
     have hnb261 := NB135_137.out
     have hnc261 := NB137_135.out
     have hcz262_0 : wc.cell? ⟨gb135, 0, none⟩ = some (.int .i64 a0_0) := (zC BK135.out 0).trans rfl
     have hcz262_1 : wc.cell? ⟨gb135, 1, none⟩ = some (.slice A0_1 l0_1.length c0_1) := (zC BK135.out 1).trans rfl
     have hcz262_2 : wc.cell? ⟨gb135, 2, none⟩ = some (.slice A0_2 l0_2.length c0_2) := (zC BK135.out 2).trans rfl
     have hcz262_3 : wc.cell? ⟨gb135, 3, none⟩ = some (.int .i64 a0_3) := (zC BK135.out 3).trans rfl
     have hfz262_0 := zF BK135.out 0
     have hfz262_1 := zF BK135.out 1
     have hfz262_2 := zF BK135.out 2
     have hfz262_3 := zF BK135.out 3
     go_wp2_with (first | ((with_reducible refine gate_callee (f := 55) rfl ?_); refine goesL_ (some 26) rfl rfl Try.func55 (by kernel_rfl) rfl #[.agg #[.int .i64 a0_0, .slice A0_1 l0_1.length c0_1, .slice A0_2 l0_2.length c0_2, .int .i64 a0_3]] rfl (by (try simp only [List.map_toArray, List.map_cons, List.map_nil]); first | done | rfl | (simp only [List.length_drop, List.length_take]; rfl)) ?_; (with_reducible refine (spec_l6Copy.calls a0_0 _ _ l0_1 _ _ l0_2 a0_3 t141 t142 t145 t148 _ ?side1 ?side2 ?side3 ?side4 A36.out).mono ?_); (case side1 => repeat (first | exact (Kd.C_below HR0_1.out HB.out) | (with_reducible refine Kd.C_alloc ?_ _) | (with_reducible refine Kd.C_drewN ?_ _) | (with_reducible refine Kd.C_drew ?_))); (case side2 => exact HC0_1.out); (case side3 => repeat (first | exact (Kd.C_below HR0_2.out HB.out) | (with_reducible refine Kd.C_alloc ?_ _) | (with_reducible refine Kd.C_drewN ?_ _) | (with_reducible refine Kd.C_drew ?_))); (case side4 => exact HC0_2.out); rintro e w263 ⟨v143, v146, rfl, ho0, ho1, hb⟩; refine ⟨_, rfl, ?_⟩; have n0_ := qM (Kd.R_lower ho0 (below_size (yb HB))); have n1_ := qM (Kd.R_lower ho1 (below_size (yb HB))); have n2_ := qM (blk_below (bz BK135) hb); have n3_ := qM (blk_below (bz BK136) hb); have n4_ := qM (blk_below (bz BK137) hb); have n5_ := qM (below_step (yb HB) hb); clear BK135 BK136 BK137 HB; revert n0_ n1_ n2_ n3_ n4_ n5_; intro HO144 HO147 BK135 BK136 BK137 HB; (try clear hb); (try clear hb2); (try clear hk); (try clear hi); (try clear ho0); (try clear ho1)) | ((with_reducible refine gate_dst (N := 9) rfl ?_); (try (refine gate_guard (by rfl) ?_; dsimp only)); refine box_event ?hg (N := 9) ?hd (cs := #[.int .i64 0, .slice none 0 0, .slice none 0 0, .int .i64 0]) (t := 30) ?hr ?_; (case hd => rfl); (case hg => rfl); (case hr => first | (go_simp; done) | (go_simp; rfl)); intro gb149 hg w264 hbox hb; have n0_ := qM (Kd.R_below (qz HO144) hb); have n1_ := qM (Kd.R_below (qz HO147) hb); have n2_ := qM (blk_below (bz BK135) hb); have n3_ := qM (blk_below (bz BK136) hb); have n4_ := qM (blk_below (bz BK137) hb); have n5_ := qM (below_step (yb HB) hb); have n6_ := qM (hbox); have n7_ := qM ((by rw [hg]; exact (below_size (yb HB)) : w.heap.size ≤ gb149)); have n8_ := qM ((by rw [hg]; exact (below_size (yb HB)) : w.heap.size ≤ gb149)); have n9_ := qM ((by rw [hg]; exact Nat.ne_of_lt (blk_lt (bz BK135)) : gb135 ≠ gb149)); have n10_ := qM ((by rw [hg]; exact Nat.ne_of_gt (blk_lt (bz BK135)) : gb149 ≠ gb135)); have n11_ := qM ((by rw [hg]; exact Nat.ne_of_lt (blk_lt (bz BK136)) : gb136 ≠ gb149)); have n12_ := qM ((by rw [hg]; exact Nat.ne_of_gt (blk_lt (bz BK136)) : gb149 ≠ gb136)); have n13_ := qM ((by rw [hg]; exact Nat.ne_of_lt (blk_lt (bz BK137)) : gb137 ≠ gb149)); have n14_ := qM ((by rw [hg]; exact Nat.ne_of_gt (blk_lt (bz BK137)) : gb149 ≠ gb137)); clear HO144 HO147 BK135 BK136 BK137 HB; revert n0_ n1_ n2_ n3_ n4_ n5_ n6_ n7_ n8_ n9_ n10_ n11_ n12_ n13_ n14_; intro HO144 HO147 BK135 BK136 BK137 HB BK149 GW149 GE149 NB135_149 NB149_135 NB136_149 NB149_136 NB137_149 NB149_137; clear hb hbox hg; have hnb265 := NB149_135.out; have hnc265 := NB135_149.out; have hnb266 := NB149_136.out; have hnc266 := NB136_149.out; have hnb267 := NB149_137.out; have hnc267 := NB137_149.out; have hcz268_0 : w264.cell? ⟨gb149, 0, none⟩ = some (.int .i64 0) := (zC BK149.out 0).trans rfl; have hcz268_1 : w264.cell? ⟨gb149, 1, none⟩ = some (.slice none 0 0) := (zC BK149.out 1).trans rfl; have hcz268_2 : w264.cell? ⟨gb149, 2, none⟩ = some (.slice none 0 0) := (zC BK149.out 2).trans rfl; have hcz268_3 : w264.cell? ⟨gb149, 3, none⟩ = some (.int .i64 0) := (zC BK149.out 3).trans rfl; have hfz268_0 := zF BK149.out 0; have hfz268_1 := zF BK149.out 1; have hfz268_2 := zF BK149.out 2; have hfz268_3 := zF BK149.out 3; obtain ⟨Ao269, co269, eo269⟩ := Kd.R_slice HO144.out; subst eo269; obtain ⟨Ao270, co270, eo270⟩ := Kd.R_slice HO147.out; subst eo270; have hnb271 := NB137_136.out; have hnc271 := NB136_137.out; have hcz272_0 : w264.cell? ⟨gb137, 0, none⟩ = some (.int .i64 0) := (zC BK137.out 0).trans rfl; have hcz272_1 : w264.cell? ⟨gb137, 1, none⟩ = some (.slice none 0 0) := (zC BK137.out 1).trans rfl; have hcz272_2 : w264.cell? ⟨gb137, 2, none⟩ = some (.slice none 0 0) := (zC BK137.out 2).trans rfl; have hcz272_3 : w264.cell? ⟨gb137, 3, none⟩ = some (.int .i64 0) := (zC BK137.out 3).trans rfl; have hfz272_0 := zF BK137.out 0; have hfz272_1 := zF BK137.out 1; have hfz272_2 := zF BK137.out 2; have hfz272_3 := zF BK137.out 3))
     refine bodyPost_ret (results_cell_row rfl _ _ gb137 30 #[.int .i64 t141, .slice Ao269 t142.length co269, .slice Ao270 t145.length co270, .int .i64 t148] (0, 0) _ rfl (by (with_reducible repeat (first | refine zN ?_ _ | refine zD ?_ | refine zA ?_ _)); refine blk_put (cs := #[.int .i64 t141, .slice Ao269 t142.length co269, .slice Ao270 t145.length co270, .int .i64 0]) ?_ 3 _ rfl; (with_reducible repeat (first | refine zN ?_ _ | refine zD ?_ | refine zA ?_ _)); refine blk_put (cs := #[.int .i64 t141, .slice Ao269 t142.length co269, .slice none 0 0, .int .i64 0]) ?_ 2 _ rfl; (with_reducible repeat (first | refine zN ?_ _ | refine zD ?_ | refine zA ?_ _)); refine blk_put (cs := #[.int .i64 t141, .slice none 0 0, .slice none 0 0, .int .i64 0]) ?_ 1 _ rfl; (with_reducible repeat (first | refine zN ?_ _ | refine zD ?_ | refine zA ?_ _)); refine blk_put (cs := #[.int .i64 0, .slice none 0 0, .slice none 0 0, .int .i64 0]) ?_ 0 _ rfl; (with_reducible repeat (first | refine zN ?_ _ | refine zD ?_ | refine zA ?_ _)); refine blk_far ?_ NB137_149.out _; (with_reducible repeat (first | refine zN ?_ _ | refine zD ?_ | refine zA ?_ _)); refine blk_far ?_ NB137_149.out _; (with_reducible repeat (first | refine zN ?_ _ | refine zD ?_ | refine zA ?_ _)); refine blk_far ?_ NB137_149.out _; (with_reducible repeat (first | refine zN ?_ _ | refine zD ?_ | refine zA ?_ _)); refine blk_far ?_ NB137_149.out _; (with_reducible repeat (first | refine zN ?_ _ | refine zD ?_ | refine zA ?_ _)); exact BK137.out) Try.underlying30 rfl (by kernel_rfl)) rfl ?_
     exact ⟨_, _, by first | rfl | (simp [errW_none, errW_some] <;> rfl) | (simp [*, errW_none, errW_some] <;> rfl), by (with_reducible repeat (first | apply qA | apply qN | apply qD)); exact Kd.R_mono (qF (p := ⟨gb137, 3, none⟩) (qF (p := ⟨gb137, 2, none⟩) (qF (p := ⟨gb137, 1, none⟩) (qF (p := ⟨gb137, 0, none⟩) (qF (p := ⟨gb149, 3, none⟩) (qF (p := ⟨gb149, 2, none⟩) (qF (p := ⟨gb149, 1, none⟩) (qF (p := ⟨gb149, 0, none⟩) (Kd.R_types (Kd.R_types HO144.out BK149.out (by decide)) BK137.out (by decide)) (fun _ hk => hk.1.2) (.int .i64 t141)) (fun _ hk => hk.1.2) (.slice Ao269 t142.length co269)) (fun _ hk => hk.1.2) (.slice Ao270 t145.length co270)) (fun _ hk => hk.1.2) (.int .i64 t148)) (fun _ hk => hk.2) (.int .i64 t141)) (fun _ hk => hk.2) (.slice Ao269 t142.length co269)) (fun _ hk => hk.2) (.slice Ao270 t145.length co270)) (fun _ hk => hk.2) (.int .i64 t148)) (fun _ hk => hk.1.1), by (with_reducible repeat (first | apply qA | apply qN | apply qD)); exact Kd.R_mono (qF (p := ⟨gb137, 3, none⟩) (qF (p := ⟨gb137, 2, none⟩) (qF (p := ⟨gb137, 1, none⟩) (qF (p := ⟨gb137, 0, none⟩) (qF (p := ⟨gb149, 3, none⟩) (qF (p := ⟨gb149, 2, none⟩) (qF (p := ⟨gb149, 1, none⟩) (qF (p := ⟨gb149, 0, none⟩) (Kd.R_types (Kd.R_types HO147.out BK149.out (by decide)) BK137.out (by decide)) (fun _ hk => hk.1.2) (.int .i64 t141)) (fun _ hk => hk.1.2) (.slice Ao269 t142.length co269)) (fun _ hk => hk.1.2) (.slice Ao270 t145.length co270)) (fun _ hk => hk.1.2) (.int .i64 t148)) (fun _ hk => hk.2) (.int .i64 t141)) (fun _ hk => hk.2) (.slice Ao269 t142.length co269)) (fun _ hk => hk.2) (.slice Ao270 t145.length co270)) (fun _ hk => hk.2) (.int .i64 t148)) (fun _ hk => hk.1.1), by repeat (first | (with_reducible first | exact HB.out | apply yA | apply yN | apply yD | refine yS ?_ GE135.out | refine yS ?_ GE136.out | refine yS ?_ GE137.out | refine yS ?_ GE149.out) | exact HB.out)⟩

end Go.Proofs.Ytcnipdbommmkmaa.PVg
