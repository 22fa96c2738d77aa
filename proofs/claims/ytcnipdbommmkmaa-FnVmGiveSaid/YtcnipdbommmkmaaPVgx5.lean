/- Functions that a law reaches, each with the walk that shows what its call answers; laid by a program of this session. -/
import Derived.Test.YtcnipdbommmkmaaPVgx0
import Derived.Test.YtcnipdbommmkmaaPVgx3
import Derived.Test.YtcnipdbommmkmaaPVgx4
namespace Go.Proofs.Ytcnipdbommmkmaa.PVg
open Go.RowKit Go.Proofs.YtcnipdbommmkmaaW.PrintWords Go.Proofs.YtcnipdbommmkmaaW.PrintLast Go.Proofs.YtcnipdbommmkmaaW.PrintMore
attribute [local go_sem] max2_int min2_int max_two min_two max_three min_three max_four min_four   -- for this text's walks alone
set_option linter.unusedVariables false
set_option linter.unusedSimpArgs false

open Go.Proofs.YtcnipdbommmkmaaAl Go.Proofs.YtcnipdbommmkmaaSq
/-! ### impl_VmGive: function 17 -/
def impl_VmGive.j0 : Nat → List Int → Bool → Bool → Int → List Int → List Int → Int → Int → Int → List Int → Int → Int → Int → Option (Int × List Int × List Int × Int)
 | 0, _, _, _, _, _, _, _, _, _, _, _, _, _ => none
 | k + 1, x2, x3, x21, x207000, x207001, x207002, x207003, x208000, x208001, x208002, x208003, x208004, x208005 => if x21 = true then (some (0, ([] : List Int), ([] : List Int), 0)) else ((impl_vmCopy.f x207000 x207001 x207002 x207003).bind fun bt212 => ((impl_vmAnswer.f k bt212.1 bt212.2.1 bt212.2.2.1 bt212.2.2.2 x208000 x208001 x208002 x208003 x208004 x208005 x2 x3).bind fun bt220 => (some (bt220.1, bt220.2.1, bt220.2.2.1, bt220.2.2.2))))
def impl_VmGive.f (k : Nat) (a0_0 : Int) (l0_1 : List Int) (l0_2 : List Int) (a0_3 : Int) (a1_0 : Int) (a1_1 : Int) (l1_2 : List Int) (a1_3 : Int) (a1_4 : Int) (a1_5 : Int) (l2 : List Int) (a3 : Bool) : Option (Int × List Int × List Int × Int) := (impl_VmOk.f a0_0 l0_1 l0_2 a0_3).bind fun t209 => (if t209 = true then ((impl_vmAskOk.f a1_0 a1_1 l1_2 a1_3 a1_4 a1_5).bind fun t210 => (if t210 = true then ((impl_BytMessage.f l2).bind fun t211 => (impl_VmGive.j0 k l2 a3 (!t211) a0_0 l0_1 l0_2 a0_3 a1_0 a1_1 l1_2 a1_3 a1_4 a1_5)) else (impl_VmGive.j0 k l2 a3 true a0_0 l0_1 l0_2 a0_3 a1_0 a1_1 l1_2 a1_3 a1_4 a1_5))) else (impl_VmGive.j0 k l2 a3 true a0_0 l0_1 l0_2 a0_3 a1_0 a1_1 l1_2 a1_3 a1_4 a1_5))
theorem impl_VmGive.mono_l : ∀ k, (∀ y0 y1 y2 y3 y4 y5 y6 y7 y8 y9 y10 y11 y12, LeO (impl_VmGive.j0 k y0 y1 y2 y3 y4 y5 y6 y7 y8 y9 y10 y11 y12) (impl_VmGive.j0 (k + 1) y0 y1 y2 y3 y4 y5 y6 y7 y8 y9 y10 y11 y12))
 | 0 => fun _ _ _ _ _ _ _ _ _ _ _ _ _ r h => by simp [impl_VmGive.j0] at h
 | k + 1 => by
  have ih0 := impl_VmGive.mono_l k
  ·intro y0 y1 y2 y3 y4 y5 y6 y7 y8 y9 y10 y11 y12
   unfold impl_VmGive.j0
   repeat' first
   | (with_reducible exact ih0 _ _ _ _ _ _ _ _ _ _ _ _ _)
   | (with_reducible exact impl_vmAnswer.mono _ _ _ _ _ _ _ _ _ _ _ _ _)
   | (with_reducible exact LeO.refl _)
   | (with_reducible exact LeO.none _)
   | (with_reducible refine LeO.ite ?_ ?_)
   | (with_reducible refine LeO.bind ?_ (fun _ => ?_))
   | exact ih0 _ _ _ _ _ _ _ _ _ _ _ _ _
   | exact impl_vmAnswer.mono _ _ _ _ _ _ _ _ _ _ _ _ _
   | exact LeO.none _
   | refine LeO.ite ?_ ?_
   | refine LeO.bind ?_ (fun _ => ?_)
theorem impl_VmGive.mono : ∀ a0 a1 a2 a3 a4 a5 a6 a7 a8 a9 a10 a11 k, LeO (impl_VmGive.f k a0 a1 a2 a3 a4 a5 a6 a7 a8 a9 a10 a11) (impl_VmGive.f (k + 1) a0 a1 a2 a3 a4 a5 a6 a7 a8 a9 a10 a11) := by
 intro a0 a1 a2 a3 a4 a5 a6 a7 a8 a9 a10 a11 k
 have ih0 := impl_VmGive.mono_l k
 unfold impl_VmGive.f
 repeat' first
   | (with_reducible exact ih0 _ _ _ _ _ _ _ _ _ _ _ _ _)
   | (with_reducible exact impl_vmAnswer.mono _ _ _ _ _ _ _ _ _ _ _ _ _)
   | (with_reducible exact LeO.refl _)
   | (with_reducible exact LeO.none _)
   | (with_reducible refine LeO.ite ?_ ?_)
   | (with_reducible refine LeO.bind ?_ (fun _ => ?_))
   | exact ih0 _ _ _ _ _ _ _ _ _ _ _ _ _
   | exact impl_vmAnswer.mono _ _ _ _ _ _ _ _ _ _ _ _ _
   | exact LeO.none _
   | refine LeO.ite ?_ ?_
   | refine LeO.bind ?_ (fun _ => ?_)
set_option maxHeartbeats 8000000 in
set_option maxRecDepth 100000 in
theorem impl_VmGive.calls (k : Nat) (a0_0 : Int) (A0_1 : Option Addr) (c0_1 : Nat) (l0_1 : List Int) (A0_2 : Option Addr) (c0_2 : Nat) (l0_2 : List Int) (a0_3 : Int) (a1_0 : Int) (a1_1 : Int) (A1_2 : Option Addr) (c1_2 : Nat) (l1_2 : List Int) (a1_3 : Int) (a1_4 : Int) (a1_5 : Int) (A2 : Option Addr) (c2 : Nat) (l2 : List Int) (a3 : Bool) (r1 : Int) (r2 : List Int) (r3 : List Int) (r4 : Int) (w : World) (hr0_1 : Kd.C (Kd.int .i64) w A0_1 l0_1.length l0_1) (hc0_1 : l0_1.length ≤ c0_1) (hr0_2 : Kd.C (Kd.int .i64) w A0_2 l0_2.length l0_2) (hc0_2 : l0_2.length ≤ c0_2) (hr1_2 : Kd.C (Kd.int .u8) w A1_2 l1_2.length l1_2) (hc1_2 : l1_2.length ≤ c1_2) (hr2 : Kd.C (Kd.int .u8) w A2 l2.length l2) (hc2 : l2.length ≤ c2) (h : impl_VmGive.f k a0_0 l0_1 l0_2 a0_3 a1_0 a1_1 l1_2 a1_3 a1_4 a1_5 l2 a3 = some (r1, r2, r3, r4)) :
  Calls Try.prog 17 #[.agg #[.int .i64 a0_0, .slice A0_1 l0_1.length c0_1, .slice A0_2 l0_2.length c0_2, .int .i64 a0_3], .agg #[.int .i64 a1_0, .int .i64 a1_1, .slice A1_2 l1_2.length c1_2, .int .i64 a1_3, .int .i64 a1_4, .int .i64 a1_5], .slice A2 l2.length c2, .bool a3] w fun e w' => ∃ v1_ v2_ : Value, e = .returned (.agg #[.int .i64 r1, v1_, v2_, .int .i64 r4]) ∧ Kd.R (Kd.int .i64) 3 w' w.heap.size (fun k_ => some k_ ≠ (v2_ : Value).ownBlock) v1_ r2 ∧ Kd.R (Kd.int .i64) 3 w' w.heap.size (fun k_ => some k_ ≠ (v1_ : Value).ownBlock) v2_ r3 ∧ Below w.heap.size w w' := by
 have hu30 := Try.underlying30
 have hu33 := Try.underlying33
 have HR0_1 := qM hr0_1
 have HC0_1 := qM hc0_1
 clear hr0_1 hc0_1
 have HR0_2 := qM hr0_2
 have HC0_2 := qM hc0_2
 clear hr0_2 hc0_2
 have HR1_2 := qM hr1_2
 have HC1_2 := qM hc1_2
 clear hr1_2 hc1_2
 have HR2 := qM hr2
 have HC2 := qM hc2
 clear hr2 hc2
 have HB := qM (Below.refl w.heap.size w)
 have H : ((impl_VmOk.f a0_0 l0_1 l0_2 a0_3).bind fun t209 => (if t209 = true then ((impl_vmAskOk.f a1_0 a1_1 l1_2 a1_3 a1_4 a1_5).bind fun t210 => (if t210 = true then ((impl_BytMessage.f l2).bind fun t211 => (impl_VmGive.j0 k l2 a3 (!t211) a0_0 l0_1 l0_2 a0_3 a1_0 a1_1 l1_2 a1_3 a1_4 a1_5)) else (impl_VmGive.j0 k l2 a3 true a0_0 l0_1 l0_2 a0_3 a1_0 a1_1 l1_2 a1_3 a1_4 a1_5))) else (impl_VmGive.j0 k l2 a3 true a0_0 l0_1 l0_2 a0_3 a1_0 a1_1 l1_2 a1_3 a1_4 a1_5))) = some (r1, r2, r3, r4) := h
 clear h
 have HC5 := qM H
 clear H
 go_enter Try.func17, Try.ntmps17
 go_upto_region 1 with (first | ((with_reducible refine gate_dst (N := 4) rfl ?_); refine box_event ?hg (N := 4) ?hd (cs := #[.int .i64 a0_0, .slice A0_1 l0_1.length c0_1, .slice A0_2 l0_2.length c0_2, .int .i64 a0_3]) (t := 30) ?hr ?_; (case hd => rfl); (case hg => rfl); (case hr => first | (go_simp; done) | (go_simp; rfl)); intro gb206 hg w6 hbox hb; have n0_ := qM (below_step (yb HB) hb); have n1_ := qM (hbox); have n2_ := qM ((by rw [hg]; exact (below_size (yb HB)) : w.heap.size ≤ gb206)); have n3_ := qM ((by rw [hg]; exact (below_size (yb HB)) : w.heap.size ≤ gb206)); clear HB; revert n0_ n1_ n2_ n3_; intro HB BK206 GW206 GE206; clear hb hbox hg) | ((with_reducible refine gate_dst (N := 5) rfl ?_); refine box_event ?hg (N := 5) ?hd (cs := #[.int .i64 a1_0, .int .i64 a1_1, .slice A1_2 l1_2.length c1_2, .int .i64 a1_3, .int .i64 a1_4, .int .i64 a1_5]) (t := 33) ?hr ?_; (case hd => rfl); (case hg => rfl); (case hr => first | (go_simp; done) | (go_simp; rfl)); intro gb207 hg w7 hbox hb; have n0_ := qM (blk_below (bz BK206) hb); have n1_ := qM (below_step (yb HB) hb); have n2_ := qM (hbox); have n3_ := qM ((by rw [hg]; exact (below_size (yb HB)) : w.heap.size ≤ gb207)); have n4_ := qM ((by rw [hg]; exact (below_size (yb HB)) : w.heap.size ≤ gb207)); have n5_ := qM ((by rw [hg]; exact Nat.ne_of_lt (blk_lt (bz BK206)) : gb206 ≠ gb207)); have n6_ := qM ((by rw [hg]; exact Nat.ne_of_gt (blk_lt (bz BK206)) : gb207 ≠ gb206)); clear BK206 HB; revert n0_ n1_ n2_ n3_ n4_ n5_ n6_; intro BK206 HB BK207 GW207 GE207 NB206_207 NB207_206; clear hb hbox hg) | ((with_reducible refine gate_dst (N := 8) rfl ?_); refine box_event ?hg (N := 8) ?hd (cs := #[.int .i64 0, .slice none 0 0, .slice none 0 0, .int .i64 0]) (t := 30) ?hr ?_; (case hd => rfl); (case hg => rfl); (case hr => first | (go_simp; done) | (go_simp; rfl)); intro gb208 hg w8 hbox hb; have n0_ := qM (blk_below (bz BK206) hb); have n1_ := qM (blk_below (bz BK207) hb); have n2_ := qM (below_step (yb HB) hb); have n3_ := qM (hbox); have n4_ := qM ((by rw [hg]; exact (below_size (yb HB)) : w.heap.size ≤ gb208)); have n5_ := qM ((by rw [hg]; exact (below_size (yb HB)) : w.heap.size ≤ gb208)); have n6_ := qM ((by rw [hg]; exact Nat.ne_of_lt (blk_lt (bz BK206)) : gb206 ≠ gb208)); have n7_ := qM ((by rw [hg]; exact Nat.ne_of_gt (blk_lt (bz BK206)) : gb208 ≠ gb206)); have n8_ := qM ((by rw [hg]; exact Nat.ne_of_lt (blk_lt (bz BK207)) : gb207 ≠ gb208)); have n9_ := qM ((by rw [hg]; exact Nat.ne_of_gt (blk_lt (bz BK207)) : gb208 ≠ gb207)); clear BK206 BK207 HB; revert n0_ n1_ n2_ n3_ n4_ n5_ n6_ n7_ n8_ n9_; intro BK206 BK207 HB BK208 GW208 GE208 NB206_208 NB208_206 NB207_208 NB208_207; clear hb hbox hg))
 (try simp only [Act.put, List.setIfInBounds_toArray, List.set_cons_zero, List.set_cons_succ])
 go_cut [21] (fun v21 wc => ∃ (kq : Nat) (x21_4 : Bool), v21 = .bool x21_4 ∧ Aside0 (impl_VmGive.j0 kq l2 a3 x21_4 a0_0 l0_1 l0_2 a0_3 a1_0 a1_1 l1_2 a1_3 a1_4 a1_5 = some (r1, r2, r3, r4)) ∧ Aside0 (kq ≤ k) ∧ Aside0 (wc.heap[gb206]? = some (.cells #[.int .i64 a0_0, (.slice A0_1 l0_1.length c0_1), (.slice A0_2 l0_2.length c0_2), .int .i64 a0_3] 30 (0, 0))) ∧ Aside0 (wc.heap[gb207]? = some (.cells #[.int .i64 a1_0, .int .i64 a1_1, (.slice A1_2 l1_2.length c1_2), .int .i64 a1_3, .int .i64 a1_4, .int .i64 a1_5] 33 (0, 0))) ∧ Aside0 (wc.heap[gb208]? = some (.cells #[.int .i64 0, (.slice none 0 0), (.slice none 0 0), .int .i64 0] 30 (0, 0))) ∧ Aside0 (Below w.heap.size w wc))
 case first =>
  have H := HC5.out
  clear HC5
  replace H := Option.bind_eq_some_iff.mp H
  obtain ⟨t209, A90, H⟩ := H
  replace H : (if t209 = true then ((impl_vmAskOk.f a1_0 a1_1 l1_2 a1_3 a1_4 a1_5).bind fun t210 => (if t210 = true then ((impl_BytMessage.f l2).bind fun t211 => (impl_VmGive.j0 k l2 a3 (!t211) a0_0 l0_1 l0_2 a0_3 a1_0 a1_1 l1_2 a1_3 a1_4 a1_5)) else (impl_VmGive.j0 k l2 a3 true a0_0 l0_1 l0_2 a0_3 a1_0 a1_1 l1_2 a1_3 a1_4 a1_5))) else (impl_VmGive.j0 k l2 a3 true a0_0 l0_1 l0_2 a0_3 a1_0 a1_1 l1_2 a1_3 a1_4 a1_5)) = some (r1, r2, r3, r4) := H
  have A9 := qM A90
  clear A90
  by_cases c10 : t209 = true
  ·subst c10
   have H1 : ((impl_vmAskOk.f a1_0 a1_1 l1_2 a1_3 a1_4 a1_5).bind fun t210 => (if t210 = true then ((impl_BytMessage.f l2).bind fun t211 => (impl_VmGive.j0 k l2 a3 (!t211) a0_0 l0_1 l0_2 a0_3 a1_0 a1_1 l1_2 a1_3 a1_4 a1_5)) else (impl_VmGive.j0 k l2 a3 true a0_0 l0_1 l0_2 a0_3 a1_0 a1_1 l1_2 a1_3 a1_4 a1_5))) = some (r1, r2, r3, r4) := by rw [if_pos rfl] at H; exact H
   clear H
   have H := H1
   clear H1
   replace H := Option.bind_eq_some_iff.mp H
   obtain ⟨t210, A110, H⟩ := H
   replace H : (if t210 = true then ((impl_BytMessage.f l2).bind fun t211 => (impl_VmGive.j0 k l2 a3 (!t211) a0_0 l0_1 l0_2 a0_3 a1_0 a1_1 l1_2 a1_3 a1_4 a1_5)) else (impl_VmGive.j0 k l2 a3 true a0_0 l0_1 l0_2 a0_3 a1_0 a1_1 l1_2 a1_3 a1_4 a1_5)) = some (r1, r2, r3, r4) := H
   have A11 := qM A110
   clear A110
   by_cases c12 : t210 = true
   ·subst c12
    have H1 : ((impl_BytMessage.f l2).bind fun t211 => (impl_VmGive.j0 k l2 a3 (!t211) a0_0 l0_1 l0_2 a0_3 a1_0 a1_1 l1_2 a1_3 a1_4 a1_5)) = some (r1, r2, r3, r4) := by rw [if_pos rfl] at H; exact H
    clear H
    have H := H1
    clear H1
    replace H := Option.bind_eq_some_iff.mp H
    obtain ⟨t211, A130, H⟩ := H
    replace H : (impl_VmGive.j0 k l2 a3 (!t211) a0_0 l0_1 l0_2 a0_3 a1_0 a1_1 l1_2 a1_3 a1_4 a1_5) = some (r1, r2, r3, r4) := H
    have A13 := qM A130
    clear A130
    have H' := qM H
    clear H
    have hnb14 := NB206_207.out
    have hnc14 := NB207_206.out
    have hnb15 := NB206_208.out
    have hnc15 := NB208_206.out
    have hcz16_0 : w8.cell? ⟨gb206, 0, none⟩ = some (.int .i64 a0_0) := (zC BK206.out 0).trans rfl
    have hcz16_1 : w8.cell? ⟨gb206, 1, none⟩ = some (.slice A0_1 l0_1.length c0_1) := (zC BK206.out 1).trans rfl
    have hcz16_2 : w8.cell? ⟨gb206, 2, none⟩ = some (.slice A0_2 l0_2.length c0_2) := (zC BK206.out 2).trans rfl
    have hcz16_3 : w8.cell? ⟨gb206, 3, none⟩ = some (.int .i64 a0_3) := (zC BK206.out 3).trans rfl
    have hfz16_0 := zF BK206.out 0
    have hfz16_1 := zF BK206.out 1
    have hfz16_2 := zF BK206.out 2
    have hfz16_3 := zF BK206.out 3
    go_wp2_with (first | ((with_reducible refine gate_callee (f := 28) rfl ?_); refine goesL_ (some 10) rfl rfl Try.func28 (by kernel_rfl) rfl #[.agg #[.int .i64 a0_0, .slice A0_1 l0_1.length c0_1, .slice A0_2 l0_2.length c0_2, .int .i64 a0_3]] rfl (by (try simp only [List.map_toArray, List.map_cons, List.map_nil]); first | done | rfl | (simp only [List.length_drop, List.length_take]; rfl)) ?_; (with_reducible refine (impl_VmOk.calls a0_0 _ _ l0_1 _ _ l0_2 a0_3 true _ ?side1 ?side2 ?side3 ?side4 A9.out).mono ?_); (case side1 => repeat (first | exact (Kd.C_below HR0_1.out HB.out) | (with_reducible refine Kd.C_alloc ?_ _) | (with_reducible refine Kd.C_drewN ?_ _) | (with_reducible refine Kd.C_drew ?_))); (case side2 => exact HC0_1.out); (case side3 => repeat (first | exact (Kd.C_below HR0_2.out HB.out) | (with_reducible refine Kd.C_alloc ?_ _) | (with_reducible refine Kd.C_drewN ?_ _) | (with_reducible refine Kd.C_drew ?_))); (case side4 => exact HC0_2.out); rintro e w17 ⟨rfl, hb⟩; refine ⟨_, rfl, ?_⟩; have n0_ := qM (blk_below (bz BK206) hb); have n1_ := qM (blk_below (bz BK207) hb); have n2_ := qM (blk_below (bz BK208) hb); have n3_ := qM (below_step (yb HB) hb); clear BK206 BK207 BK208 HB; revert n0_ n1_ n2_ n3_; intro BK206 BK207 BK208 HB; (try clear hb); (try clear hb2); (try clear hk); (try clear hi); have hnb18 := NB207_208.out; have hnc18 := NB208_207.out; have hcz19_0 : w17.cell? ⟨gb207, 0, none⟩ = some (.int .i64 a1_0) := (zC BK207.out 0).trans rfl; have hcz19_1 : w17.cell? ⟨gb207, 1, none⟩ = some (.int .i64 a1_1) := (zC BK207.out 1).trans rfl; have hcz19_2 : w17.cell? ⟨gb207, 2, none⟩ = some (.slice A1_2 l1_2.length c1_2) := (zC BK207.out 2).trans rfl; have hcz19_3 : w17.cell? ⟨gb207, 3, none⟩ = some (.int .i64 a1_3) := (zC BK207.out 3).trans rfl; have hcz19_4 : w17.cell? ⟨gb207, 4, none⟩ = some (.int .i64 a1_4) := (zC BK207.out 4).trans rfl; have hcz19_5 : w17.cell? ⟨gb207, 5, none⟩ = some (.int .i64 a1_5) := (zC BK207.out 5).trans rfl; have hfz19_0 := zF BK207.out 0; have hfz19_1 := zF BK207.out 1; have hfz19_2 := zF BK207.out 2; have hfz19_3 := zF BK207.out 3; have hfz19_4 := zF BK207.out 4; have hfz19_5 := zF BK207.out 5) | (go_at_call 59; (with_reducible refine (impl_vmAskOk.calls a1_0 a1_1 _ _ l1_2 a1_3 a1_4 a1_5 true _ ?side1 ?side2 A11.out).mono ?_); (case side1 => repeat (first | exact (Kd.C_below HR1_2.out HB.out) | (with_reducible refine Kd.C_alloc ?_ _) | (with_reducible refine Kd.C_drewN ?_ _) | (with_reducible refine Kd.C_drew ?_))); (case side2 => exact HC1_2.out); rintro e w20 ⟨rfl, hb⟩; have n0_ := qM (blk_below (bz BK206) hb); have n1_ := qM (blk_below (bz BK207) hb); have n2_ := qM (blk_below (bz BK208) hb); have n3_ := qM (below_step (yb HB) hb); clear BK206 BK207 BK208 HB; revert n0_ n1_ n2_ n3_; intro BK206 BK207 BK208 HB; (try clear hb); (try clear hb2); (try clear hk); (try clear hi)) | (go_at_call 60; (with_reducible refine (impl_BytMessage.calls _ _ l2 t211 _ ?side1 ?side2 A13.out).mono ?_); (case side1 => repeat (first | exact (Kd.C_below HR2.out HB.out) | (with_reducible refine Kd.C_alloc ?_ _) | (with_reducible refine Kd.C_drewN ?_ _) | (with_reducible refine Kd.C_drew ?_))); (case side2 => exact HC2.out); rintro e w' ⟨rfl, ⟨nd, rfl⟩⟩))
    go_meet
    case rel => exact ⟨_, (!t211), (by first | rfl | (simp; done) | (simp [*]; done)), H', ⟨by first | omega | exact Nat.le_refl _⟩, ⟨by (with_reducible repeat (first | refine zN ?_ _ | refine zD ?_ | refine zA ?_ _)); exact BK206.out⟩, ⟨by (with_reducible repeat (first | refine zN ?_ _ | refine zD ?_ | refine zA ?_ _)); exact BK207.out⟩, ⟨by (with_reducible repeat (first | refine zN ?_ _ | refine zD ?_ | refine zA ?_ _)); exact BK208.out⟩, ⟨by repeat (first | (with_reducible first | exact HB.out | apply yA | apply yN | apply yD | refine yS ?_ GE206.out | refine yS ?_ GE207.out | refine yS ?_ GE208.out) | exact HB.out)⟩⟩
   ·replace c12 := Bool.eq_false_iff.mpr c12
    subst c12
    have H1 : (impl_VmGive.j0 k l2 a3 true a0_0 l0_1 l0_2 a0_3 a1_0 a1_1 l1_2 a1_3 a1_4 a1_5) = some (r1, r2, r3, r4) := by rw [if_neg (show ¬ (false = true) by decide)] at H; exact H
    clear H
    have H := H1
    clear H1
    have H' := qM H
    clear H
    have hnb21 := NB206_207.out
    have hnc21 := NB207_206.out
    have hnb22 := NB206_208.out
    have hnc22 := NB208_206.out
    have hcz23_0 : w8.cell? ⟨gb206, 0, none⟩ = some (.int .i64 a0_0) := (zC BK206.out 0).trans rfl
    have hcz23_1 : w8.cell? ⟨gb206, 1, none⟩ = some (.slice A0_1 l0_1.length c0_1) := (zC BK206.out 1).trans rfl
    have hcz23_2 : w8.cell? ⟨gb206, 2, none⟩ = some (.slice A0_2 l0_2.length c0_2) := (zC BK206.out 2).trans rfl
    have hcz23_3 : w8.cell? ⟨gb206, 3, none⟩ = some (.int .i64 a0_3) := (zC BK206.out 3).trans rfl
    have hfz23_0 := zF BK206.out 0
    have hfz23_1 := zF BK206.out 1
    have hfz23_2 := zF BK206.out 2
    have hfz23_3 := zF BK206.out 3
    go_wp2_with (first | ((with_reducible refine gate_callee (f := 28) rfl ?_); refine goesL_ (some 10) rfl rfl Try.func28 (by kernel_rfl) rfl #[.agg #[.int .i64 a0_0, .slice A0_1 l0_1.length c0_1, .slice A0_2 l0_2.length c0_2, .int .i64 a0_3]] rfl (by (try simp only [List.map_toArray, List.map_cons, List.map_nil]); first | done | rfl | (simp only [List.length_drop, List.length_take]; rfl)) ?_; (with_reducible refine (impl_VmOk.calls a0_0 _ _ l0_1 _ _ l0_2 a0_3 true _ ?side1 ?side2 ?side3 ?side4 A9.out).mono ?_); (case side1 => repeat (first | exact (Kd.C_below HR0_1.out HB.out) | (with_reducible refine Kd.C_alloc ?_ _) | (with_reducible refine Kd.C_drewN ?_ _) | (with_reducible refine Kd.C_drew ?_))); (case side2 => exact HC0_1.out); (case side3 => repeat (first | exact (Kd.C_below HR0_2.out HB.out) | (with_reducible refine Kd.C_alloc ?_ _) | (with_reducible refine Kd.C_drewN ?_ _) | (with_reducible refine Kd.C_drew ?_))); (case side4 => exact HC0_2.out); rintro e w24 ⟨rfl, hb⟩; refine ⟨_, rfl, ?_⟩; have n0_ := qM (blk_below (bz BK206) hb); have n1_ := qM (blk_below (bz BK207) hb); have n2_ := qM (blk_below (bz BK208) hb); have n3_ := qM (below_step (yb HB) hb); clear BK206 BK207 BK208 HB; revert n0_ n1_ n2_ n3_; intro BK206 BK207 BK208 HB; (try clear hb); (try clear hb2); (try clear hk); (try clear hi); have hnb25 := NB207_208.out; have hnc25 := NB208_207.out; have hcz26_0 : w24.cell? ⟨gb207, 0, none⟩ = some (.int .i64 a1_0) := (zC BK207.out 0).trans rfl; have hcz26_1 : w24.cell? ⟨gb207, 1, none⟩ = some (.int .i64 a1_1) := (zC BK207.out 1).trans rfl; have hcz26_2 : w24.cell? ⟨gb207, 2, none⟩ = some (.slice A1_2 l1_2.length c1_2) := (zC BK207.out 2).trans rfl; have hcz26_3 : w24.cell? ⟨gb207, 3, none⟩ = some (.int .i64 a1_3) := (zC BK207.out 3).trans rfl; have hcz26_4 : w24.cell? ⟨gb207, 4, none⟩ = some (.int .i64 a1_4) := (zC BK207.out 4).trans rfl; have hcz26_5 : w24.cell? ⟨gb207, 5, none⟩ = some (.int .i64 a1_5) := (zC BK207.out 5).trans rfl; have hfz26_0 := zF BK207.out 0; have hfz26_1 := zF BK207.out 1; have hfz26_2 := zF BK207.out 2; have hfz26_3 := zF BK207.out 3; have hfz26_4 := zF BK207.out 4; have hfz26_5 := zF BK207.out 5) | (go_at_call 59; (with_reducible refine (impl_vmAskOk.calls a1_0 a1_1 _ _ l1_2 a1_3 a1_4 a1_5 false _ ?side1 ?side2 A11.out).mono ?_); (case side1 => repeat (first | exact (Kd.C_below HR1_2.out HB.out) | (with_reducible refine Kd.C_alloc ?_ _) | (with_reducible refine Kd.C_drewN ?_ _) | (with_reducible refine Kd.C_drew ?_))); (case side2 => exact HC1_2.out); rintro e w27 ⟨rfl, hb⟩; have n0_ := qM (blk_below (bz BK206) hb); have n1_ := qM (blk_below (bz BK207) hb); have n2_ := qM (blk_below (bz BK208) hb); have n3_ := qM (below_step (yb HB) hb); clear BK206 BK207 BK208 HB; revert n0_ n1_ n2_ n3_; intro BK206 BK207 BK208 HB; (try clear hb); (try clear hb2); (try clear hk); (try clear hi)))
    go_meet
    case rel => exact ⟨_, (true), (by first | rfl | (simp; done) | (simp [*]; done)), H', ⟨by first | omega | exact Nat.le_refl _⟩, ⟨by (with_reducible repeat (first | refine zN ?_ _ | refine zD ?_ | refine zA ?_ _)); exact BK206.out⟩, ⟨by (with_reducible repeat (first | refine zN ?_ _ | refine zD ?_ | refine zA ?_ _)); exact BK207.out⟩, ⟨by (with_reducible repeat (first | refine zN ?_ _ | refine zD ?_ | refine zA ?_ _)); exact BK208.out⟩, ⟨by repeat (first | (with_reducible first | exact HB.out | apply yA | apply yN | apply yD | refine yS ?_ GE206.out | refine yS ?_ GE207.out | refine yS ?_ GE208.out) | exact HB.out)⟩⟩
  ·replace c10 := Bool.eq_false_iff.mpr c10
   subst c10
   have H1 : (impl_VmGive.j0 k l2 a3 true a0_0 l0_1 l0_2 a0_3 a1_0 a1_1 l1_2 a1_3 a1_4 a1_5) = some (r1, r2, r3, r4) := by rw [if_neg (show ¬ (false = true) by decide)] at H; exact H
   clear H
   have H := H1
   clear H1
   have H' := qM H
   clear H
   have hnb28 := NB206_207.out
   have hnc28 := NB207_206.out
   have hnb29 := NB206_208.out
   have hnc29 := NB208_206.out
   have hcz30_0 : w8.cell? ⟨gb206, 0, none⟩ = some (.int .i64 a0_0) := (zC BK206.out 0).trans rfl
   have hcz30_1 : w8.cell? ⟨gb206, 1, none⟩ = some (.slice A0_1 l0_1.length c0_1) := (zC BK206.out 1).trans rfl
   have hcz30_2 : w8.cell? ⟨gb206, 2, none⟩ = some (.slice A0_2 l0_2.length c0_2) := (zC BK206.out 2).trans rfl
   have hcz30_3 : w8.cell? ⟨gb206, 3, none⟩ = some (.int .i64 a0_3) := (zC BK206.out 3).trans rfl
   have hfz30_0 := zF BK206.out 0
   have hfz30_1 := zF BK206.out 1
   have hfz30_2 := zF BK206.out 2
   have hfz30_3 := zF BK206.out 3
   go_wp2_with (first | ((with_reducible refine gate_callee (f := 28) rfl ?_); refine goesL_ (some 10) rfl rfl Try.func28 (by kernel_rfl) rfl #[.agg #[.int .i64 a0_0, .slice A0_1 l0_1.length c0_1, .slice A0_2 l0_2.length c0_2, .int .i64 a0_3]] rfl (by (try simp only [List.map_toArray, List.map_cons, List.map_nil]); first | done | rfl | (simp only [List.length_drop, List.length_take]; rfl)) ?_; (with_reducible refine (impl_VmOk.calls a0_0 _ _ l0_1 _ _ l0_2 a0_3 false _ ?side1 ?side2 ?side3 ?side4 A9.out).mono ?_); (case side1 => repeat (first | exact (Kd.C_below HR0_1.out HB.out) | (with_reducible refine Kd.C_alloc ?_ _) | (with_reducible refine Kd.C_drewN ?_ _) | (with_reducible refine Kd.C_drew ?_))); (case side2 => exact HC0_1.out); (case side3 => repeat (first | exact (Kd.C_below HR0_2.out HB.out) | (with_reducible refine Kd.C_alloc ?_ _) | (with_reducible refine Kd.C_drewN ?_ _) | (with_reducible refine Kd.C_drew ?_))); (case side4 => exact HC0_2.out); rintro e w31 ⟨rfl, hb⟩; refine ⟨_, rfl, ?_⟩; have n0_ := qM (blk_below (bz BK206) hb); have n1_ := qM (blk_below (bz BK207) hb); have n2_ := qM (blk_below (bz BK208) hb); have n3_ := qM (below_step (yb HB) hb); clear BK206 BK207 BK208 HB; revert n0_ n1_ n2_ n3_; intro BK206 BK207 BK208 HB; (try clear hb); (try clear hb2); (try clear hk); (try clear hi)))
   go_meet
   case rel => exact ⟨_, (true), (by first | rfl | (simp; done) | (simp [*]; done)), H', ⟨by first | omega | exact Nat.le_refl _⟩, ⟨by (with_reducible repeat (first | refine zN ?_ _ | refine zD ?_ | refine zA ?_ _)); exact BK206.out⟩, ⟨by (with_reducible repeat (first | refine zN ?_ _ | refine zD ?_ | refine zA ?_ _)); exact BK207.out⟩, ⟨by (with_reducible repeat (first | refine zN ?_ _ | refine zD ?_ | refine zA ?_ _)); exact BK208.out⟩, ⟨by repeat (first | (with_reducible first | exact HB.out | apply yA | apply yN | apply yD | refine yS ?_ GE206.out | refine yS ?_ GE207.out | refine yS ?_ GE208.out) | exact HB.out)⟩⟩
 case rest =>
  clear HC5
  try clear c1
  try clear c2
  try clear p2
  try clear c10
  try clear c12
  try clear c14
  try clear c15
  try clear c17
  try clear c18
  try clear c21
  try clear c22
  try clear c25
  try clear c28
  try clear c29
  try clear hcz16_0
  try clear hcz16_1
  try clear hcz16_2
  try clear hcz16_3
  try clear hcz19_0
  try clear hcz19_1
  try clear hcz19_2
  try clear hcz19_3
  try clear hcz19_4
  try clear hcz19_5
  try clear hcz23_0
  try clear hcz23_1
  try clear hcz23_2
  try clear hcz23_3
  try clear hcz26_0
  try clear hcz26_1
  try clear hcz26_2
  try clear hcz26_3
  try clear hcz26_4
  try clear hcz26_5
  try clear hcz30_0
  try clear hcz30_1
  try clear hcz30_2
  try clear hcz30_3
  try clear hfz16_0
  try clear hfz16_1
  try clear hfz16_2
  try clear hfz16_3
  try clear hfz19_0
  try clear hfz19_1
  try clear hfz19_2
  try clear hfz19_3
  try clear hfz19_4
  try clear hfz19_5
  try clear hfz23_0
  try clear hfz23_1
  try clear hfz23_2
  try clear hfz23_3
  try clear hfz26_0
  try clear hfz26_1
  try clear hfz26_2
  try clear hfz26_3
  try clear hfz26_4
  try clear hfz26_5
  try clear hfz30_0
  try clear hfz30_1
  try clear hfz30_2
  try clear hfz30_3
  obtain ⟨kq, x21_4, rfl, HA, HJ4, BK206, BK207, BK208, HB⟩ := hcut
  cases kq with
  | zero => exact absurd HA.out (by simp [impl_VmGive.j0])
  | succ kj4 =>
   have H := HA.out
   clear HA
   simp only [impl_VmGive.j0] at H
   by_cases c32 : x21_4 = true
   ·subst c32
    have H1 : (some (0, ([] : List Int), ([] : List Int), 0)) = some (r1, r2, r3, r4) := by rw [if_pos rfl] at H; exact H
    clear H
    have H := H1
    clear H1
    simp only [Option.some.injEq, Prod.mk.injEq] at H
    obtain ⟨rfl, rfl, rfl, rfl⟩ := H
    have hnb33 := NB208_206.out
    have hnc33 := NB206_208.out
    have hnb34 := NB208_207.out
    have hnc34 := NB207_208.out
    have hcz35_0 : wc.cell? ⟨gb208, 0, none⟩ = some (.int .i64 0) := (zC BK208.out 0).trans rfl
    have hcz35_1 : wc.cell? ⟨gb208, 1, none⟩ = some (.slice none 0 0) := (zC BK208.out 1).trans rfl
    have hcz35_2 : wc.cell? ⟨gb208, 2, none⟩ = some (.slice none 0 0) := (zC BK208.out 2).trans rfl
    have hcz35_3 : wc.cell? ⟨gb208, 3, none⟩ = some (.int .i64 0) := (zC BK208.out 3).trans rfl
    have hfz35_0 := zF BK208.out 0
    have hfz35_1 := zF BK208.out 1
    have hfz35_2 := zF BK208.out 2
    have hfz35_3 := zF BK208.out 3
    go_wp2
    refine bodyPost_ret (results_cell_row rfl _ _ gb208 30 #[.int .i64 0, .slice none 0 0, .slice none 0 0, .int .i64 0] (0, 0) _ rfl (by (with_reducible repeat (first | refine zN ?_ _ | refine zD ?_ | refine zA ?_ _)); refine blk_put (cs := #[.int .i64 0, .slice none 0 0, .slice none 0 0, .int .i64 0]) ?_ 3 _ rfl; (with_reducible repeat (first | refine zN ?_ _ | refine zD ?_ | refine zA ?_ _)); refine blk_put (cs := #[.int .i64 0, .slice none 0 0, .slice none 0 0, .int .i64 0]) ?_ 2 _ rfl; (with_reducible repeat (first | refine zN ?_ _ | refine zD ?_ | refine zA ?_ _)); refine blk_put (cs := #[.int .i64 0, .slice none 0 0, .slice none 0 0, .int .i64 0]) ?_ 1 _ rfl; (with_reducible repeat (first | refine zN ?_ _ | refine zD ?_ | refine zA ?_ _)); refine blk_put (cs := #[.int .i64 0, .slice none 0 0, .slice none 0 0, .int .i64 0]) ?_ 0 _ rfl; (with_reducible repeat (first | refine zN ?_ _ | refine zD ?_ | refine zA ?_ _)); exact BK208.out) Try.underlying30 rfl (by kernel_rfl)) rfl ?_
    exact ⟨_, _, by first | rfl | (simp [errW_none, errW_some] <;> rfl) | (simp [*, errW_none, errW_some] <;> rfl), by first | exact Kd.R_nil _ _ _ _ _ | exact Kd.N_nil _ _ _ _ _ | exact Kd.V_nil _ _ _ _ _ | exact Kd.Q_nil _ _ _ _ _ | exact Kd.S_nil _ _ _ _ _, by first | exact Kd.R_nil _ _ _ _ _ | exact Kd.N_nil _ _ _ _ _ | exact Kd.V_nil _ _ _ _ _ | exact Kd.Q_nil _ _ _ _ _ | exact Kd.S_nil _ _ _ _ _, by repeat (first | (with_reducible first | exact HB.out | apply yA | apply yN | apply yD | refine yS ?_ GE206.out | refine yS ?_ GE207.out | refine yS ?_ GE208.out) | exact HB.out)⟩
   ·replace c32 := Bool.eq_false_iff.mpr c32
    subst c32
    have H1 : ((impl_vmCopy.f a0_0 l0_1 l0_2 a0_3).bind fun bt212 => ((impl_vmAnswer.f kj4 bt212.1 bt212.2.1 bt212.2.2.1 bt212.2.2.2 a1_0 a1_1 l1_2 a1_3 a1_4 a1_5 l2 a3).bind fun bt220 => (some (bt220.1, bt220.2.1, bt220.2.2.1, bt220.2.2.2)))) = some (r1, r2, r3, r4) := by rw [if_neg (show ¬ (false = true) by decide)] at H; exact H
    clear H
    have H := H1
    clear H1
    replace H := Option.bind_eq_some_iff.mp H
    obtain ⟨⟨t212, t213, t216, t219⟩, A360, H⟩ := H
    replace H : ((impl_vmAnswer.f kj4 t212 t213 t216 t219 a1_0 a1_1 l1_2 a1_3 a1_4 a1_5 l2 a3).bind fun bt220 => (some (bt220.1, bt220.2.1, bt220.2.2.1, bt220.2.2.2))) = some (r1, r2, r3, r4) := H
    have A36 := qM A360
    clear A360
    replace H := Option.bind_eq_some_iff.mp H
    obtain ⟨⟨t220, t221, t224, t227⟩, A370, H⟩ := H
    replace H : (some (t220, t221, t224, t227)) = some (r1, r2, r3, r4) := H
    have A37 := qM A370
    clear A370
    simp only [Option.some.injEq, Prod.mk.injEq] at H
    obtain ⟨rfl, rfl, rfl, rfl⟩ := H
    try go_wp2
    have n0_ := qM (zD BK206.out)
    have n1_ := qM (zD BK207.out)
    have n2_ := qM (zD BK208.out)
    have n3_ := qM (yD HB.out)
    clear BK206 BK207 BK208 HB
    revert n0_ n1_ n2_ n3_
    intro BK206 BK207 BK208 HB
    refine start_ (n := 7) (S := fun w' => w'.cell? ⟨gb206, 0, none⟩ = some (.int .i64 a0_0) ∧ w'.cell? ⟨gb206, 1, none⟩ = some (.slice A0_1 l0_1.length c0_1) ∧ w'.cell? ⟨gb206, 2, none⟩ = some (.slice A0_2 l0_2.length c0_2) ∧ w'.cell? ⟨gb206, 3, none⟩ = some (.int .i64 a0_3) ∧ w'.cell? ⟨gb207, 0, none⟩ = some (.int .i64 a1_0) ∧ w'.cell? ⟨gb207, 1, none⟩ = some (.int .i64 a1_1) ∧ w'.cell? ⟨gb207, 2, none⟩ = some (.slice A1_2 l1_2.length c1_2) ∧ w'.cell? ⟨gb207, 3, none⟩ = some (.int .i64 a1_3) ∧ w'.cell? ⟨gb207, 4, none⟩ = some (.int .i64 a1_4) ∧ w'.cell? ⟨gb207, 5, none⟩ = some (.int .i64 a1_5)) (ds := []) #[false, false, false, false, false, false, false] (by kernel_rfl) rfl rfl ⟨(zC BK206.out 0).trans rfl, (zC BK206.out 1).trans rfl, (zC BK206.out 2).trans rfl, (zC BK206.out 3).trans rfl, (zC BK207.out 0).trans rfl, (zC BK207.out 1).trans rfl, (zC BK207.out 2).trans rfl, (zC BK207.out 3).trans rfl, (zC BK207.out 4).trans rfl, (zC BK207.out 5).trans rfl⟩ (fun hHeld => ?_)
    generalize wc.drew = w38 at BK206 BK207 BK208 HB hHeld ⊢
    refine pure_ (i := 3) (N := some 26) (v := ?_) (a' := ?_) #[false, false, false, true, false, false, false] rfl rfl (by kernel_rfl) (fun _ _ _ h => h) (Or.inl ⟨by rfl, ?_⟩) ?_ ?_
    rotate_left
    ·intro w'
     go_simp
     with_reducible rfl
    rotate_left
    ·simp only [Act.put, List.setIfInBounds_toArray, List.set_cons_zero, List.set_cons_succ, i64_w, i32_w]
     rfl
    refine pure_ (i := 4) (N := some 27) (v := ?_) (a' := ?_) #[false, false, false, true, true, false, false] rfl rfl (by kernel_rfl) (fun _ _ _ h => h) (Or.inl ⟨by rfl, ?_⟩) ?_ ?_
    rotate_left
    ·intro w'
     go_simp
     with_reducible rfl
    rotate_left
    ·simp only [Act.put, List.setIfInBounds_toArray, List.set_cons_zero, List.set_cons_succ, i64_w, i32_w]
     rfl
    refine take_ (i := 0) (N := some 23) (v := ?_) (a' := ?_) #[true, false, false, true, true, false, false] rfl rfl (by kernel_rfl) (fun _ _ _ h => h) (Or.inl ⟨by rfl, ?_⟩) hHeld ?_ ?_
    rotate_left
    ·rintro w' ⟨s0, s1, s2, s3, s4, s5, s6, s7, s8, s9⟩
     go_simp
     with_reducible rfl
    rotate_left
    ·simp only [Act.put, List.setIfInBounds_toArray, List.set_cons_zero, List.set_cons_succ, i64_w, i32_w]
     rfl
    refine take_ (i := 2) (N := some 25) (v := ?_) (a' := ?_) #[true, false, true, true, true, false, false] rfl rfl (by kernel_rfl) (fun _ _ _ h => h) (Or.inl ⟨by rfl, ?_⟩) hHeld ?_ ?_
    rotate_left
    ·rintro w' ⟨s0, s1, s2, s3, s4, s5, s6, s7, s8, s9⟩
     go_simp
     with_reducible rfl
    rotate_left
    ·simp only [Act.put, List.setIfInBounds_toArray, List.set_cons_zero, List.set_cons_succ, i64_w, i32_w]
     rfl
    refine one_ (i := 1) (N := some 24) #[true, true, true, true, true, false, false] rfl rfl (by kernel_rfl) (by decide) (fun K hK => ?_)
    refine goes_ Try.func62 (by kernel_rfl) rfl #[.agg #[.int .i64 a0_0, .slice A0_1 l0_1.length c0_1, .slice A0_2 l0_2.length c0_2, .int .i64 a0_3]] (by rfl) rfl rfl (by (try simp only [List.map_toArray, List.map_cons, List.map_nil]); first | done | rfl | (simp only [List.length_drop, List.length_take]; rfl)) ?_
    with_reducible refine (impl_vmCopy.calls a0_0 _ _ l0_1 _ _ l0_2 a0_3 t212 t213 t216 t219 _ ?side1 ?side2 ?side3 ?side4 A36.out).mono ?_
    (case side1 => repeat (first | exact (Kd.C_below HR0_1.out HB.out) | (with_reducible refine Kd.C_alloc ?_ _) | (with_reducible refine Kd.C_drewN ?_ _) | (with_reducible refine Kd.C_drew ?_)))
    (case side2 => exact HC0_1.out)
    (case side3 => repeat (first | exact (Kd.C_below HR0_2.out HB.out) | (with_reducible refine Kd.C_alloc ?_ _) | (with_reducible refine Kd.C_drewN ?_ _) | (with_reducible refine Kd.C_drew ?_)))
    (case side4 => exact HC0_2.out)
    rintro e w39 ⟨v214, v217, rfl, ho0, ho1, hb⟩
    refine ⟨_, rfl, ?_⟩
    have n0_ := qM (Kd.R_lower ho0 (below_size (yb HB)))
    have n1_ := qM (Kd.R_lower ho1 (below_size (yb HB)))
    have n2_ := qM (blk_below (bz BK206) hb)
    have n3_ := qM (blk_below (bz BK207) hb)
    have n4_ := qM (blk_below (bz BK208) hb)
    have n5_ := qM (below_step (yb HB) hb)
    clear BK206 BK207 BK208 HB
    revert n0_ n1_ n2_ n3_ n4_ n5_
    intro HO215 HO218 BK206 BK207 BK208 HB
    (try clear hb)
    (try clear hb2)
    (try clear hk)
    (try clear hi)
    (try clear ho0)
    (try clear ho1)
    obtain ⟨Ao40, co40, eo40⟩ := Kd.R_slice HO215.out
    (first | subst eo40 | (injection eo40 with f1_ f2_ f3_; have f4_ := f1_.symm; have f5_ := f3_.symm; clear f1_ f2_ f3_; subst f4_; subst f5_))
    obtain ⟨Ao41, co41, eo41⟩ := Kd.R_slice HO218.out
    (first | subst eo41 | (injection eo41 with f1_ f2_ f3_; have f4_ := f1_.symm; have f5_ := f3_.symm; clear f1_ f2_ f3_; subst f4_; subst f5_))
    refine hK.out _ _ ⟨(zC BK206.out 0).trans rfl, (zC BK206.out 1).trans rfl, (zC BK206.out 2).trans rfl, (zC BK206.out 3).trans rfl, (zC BK207.out 0).trans rfl, (zC BK207.out 1).trans rfl, (zC BK207.out 2).trans rfl, (zC BK207.out 3).trans rfl, (zC BK207.out 4).trans rfl, (zC BK207.out 5).trans rfl⟩ (fun hHeld => ?_)
    clear hK K
    refine norm_ (a' := ?_) ?_ ?_
    rotate_left
    ·show Act.put _ (some 24) _ = _
     simp only [Act.put, List.setIfInBounds_toArray, List.set_cons_zero, List.set_cons_succ, i64_w, i32_w]
     rfl
    refine one_ (i := 5) (N := some 28) #[true, true, true, true, true, true, false] rfl rfl (by kernel_rfl) (by decide) (fun K hK => ?_)
    refine goes_ Try.func61 (by kernel_rfl) rfl #[.agg #[.int .i64 t212, .slice Ao40 t213.length co40, .slice Ao41 t216.length co41, .int .i64 t219], .agg #[.int .i64 a1_0, .int .i64 a1_1, .slice A1_2 l1_2.length c1_2, .int .i64 a1_3, .int .i64 a1_4, .int .i64 a1_5], .slice A2 l2.length c2, .bool a3] (by rfl) rfl rfl (by (try simp only [List.map_toArray, List.map_cons, List.map_nil]); first | done | rfl | (simp only [List.length_drop, List.length_take]; rfl)) ?_
    with_reducible refine (impl_vmAnswer.calls kj4 t212 (fun k_ => some k_ = (.slice Ao40 t213.length co40 : Value).ownBlock) (.slice Ao40 t213.length co40) t213 (fun k_ => some k_ = (.slice Ao41 t216.length co41 : Value).ownBlock) (.slice Ao41 t216.length co41) t216 t219 a1_0 a1_1 _ _ l1_2 a1_3 a1_4 a1_5 _ _ l2 a3 t220 t221 t224 t227 w _ ?side1 ?side2 ?side3 ?side4 ?side5 ?side6 ?side7 ?side8 ?side9 A37.out).mono ?_
    (case side1 => repeat (first | (with_reducible first | exact HB.out | apply yA | apply yN | apply yD | refine yS ?_ GE206.out | refine yS ?_ GE207.out | refine yS ?_ GE208.out) | exact HB.out))
    (case side2 => exact Kd.R_tight rfl HO215.out)
    (case side3 => exact fun k_ e_ => (HO215.out.1 k_ e_.symm))
    (case side4 => exact Kd.R_tight rfl HO218.out)
    (case side5 => exact fun k_ e_ => (HO218.out.1 k_ e_.symm))
    (case side6 => exact Kd.C_kept_came (Kd.heap_int .u8) HR1_2.out (yb HB) (fun k_ hs_ => Or.elim hs_ (fun e_ => (fun e_ => Kd.R_base HO215.out k_ e_.symm) e_) (fun e_ => (fun e_ => Kd.R_base HO218.out k_ e_.symm) e_)))
    (case side7 => exact HC1_2.out)
    (case side8 => exact Kd.C_kept_came (Kd.heap_int .u8) HR2.out (yb HB) (fun k_ hs_ => Or.elim hs_ (fun e_ => (fun e_ => Kd.R_base HO215.out k_ e_.symm) e_) (fun e_ => (fun e_ => Kd.R_base HO218.out k_ e_.symm) e_)))
    (case side9 => exact HC2.out)
    rintro e w42 ⟨v222, v225, rfl, ho0, ho1, hb, hkp⟩
    refine ⟨_, rfl, ?_⟩
    have n0_ := qM (blk_kept (bz BK206) hkp (fun hs_ => Or.elim hs_ (fun e_ => (fun e_ => (Kd.R_ne HO215.out BK206.out (by decide)) e_) e_) (fun e_ => (fun e_ => (Kd.R_ne HO218.out BK206.out (by decide)) e_) e_)))
    have n1_ := qM (blk_kept (bz BK207) hkp (fun hs_ => Or.elim hs_ (fun e_ => (fun e_ => (Kd.R_ne HO215.out BK207.out (by decide)) e_) e_) (fun e_ => (fun e_ => (Kd.R_ne HO218.out BK207.out (by decide)) e_) e_)))
    have n2_ := qM (blk_kept (bz BK208) hkp (fun hs_ => Or.elim hs_ (fun e_ => (fun e_ => (Kd.R_ne HO215.out BK208.out (by decide)) e_) e_) (fun e_ => (fun e_ => (Kd.R_ne HO218.out BK208.out (by decide)) e_) e_)))
    have n3_ := qM (Kd.R_mono (ok' := fun k_ => some k_ ≠ (v225 : Value).ownBlock) ho0 (fun k_ hk_ => hk_.2))
    have n4_ := qM (Kd.R_mono (ok' := fun k_ => some k_ ≠ (v222 : Value).ownBlock) ho1 (fun k_ hk_ => hk_.2))
    have n5_ := qM (hb)
    clear BK206 BK207 BK208 HB HO215 HO218
    revert n0_ n1_ n2_ n3_ n4_ n5_
    intro BK206 BK207 BK208 HO223 HO226 HB
    (try clear hb)
    (try clear hkp)
    (try clear ho0)
    (try clear ho1)
    obtain ⟨Ao44, co44, eo44⟩ := Kd.R_slice HO223.out
    (first | subst eo44 | (injection eo44 with f1_ f2_ f3_; have f4_ := f1_.symm; have f5_ := f3_.symm; clear f1_ f2_ f3_; subst f4_; subst f5_))
    obtain ⟨Ao46, co46, eo46⟩ := Kd.R_slice HO226.out
    (first | subst eo46 | (injection eo46 with f1_ f2_ f3_; have f4_ := f1_.symm; have f5_ := f3_.symm; clear f1_ f2_ f3_; subst f4_; subst f5_))
    refine hK.out _ _ ⟨(zC BK206.out 0).trans rfl, (zC BK206.out 1).trans rfl, (zC BK206.out 2).trans rfl, (zC BK206.out 3).trans rfl, (zC BK207.out 0).trans rfl, (zC BK207.out 1).trans rfl, (zC BK207.out 2).trans rfl, (zC BK207.out 3).trans rfl, (zC BK207.out 4).trans rfl, (zC BK207.out 5).trans rfl⟩ (fun hHeld => ?_)
    clear hK K
    refine norm_ (a' := ?_) ?_ ?_
    rotate_left
    ·show Act.put _ (some 28) _ = _
     simp only [Act.put, List.setIfInBounds_toArray, List.set_cons_zero, List.set_cons_succ, i64_w, i32_w]
     rfl
    refine one_ (i := 6) (N := none) #[true, true, true, true, true, true, true] rfl rfl (by kernel_rfl) (by decide) (fun K hK => ?_)
    have hs43 : w42.cell? ⟨gb208, 0, none⟩ = some (.int .i64 0) := (zC BK208.out 0).trans rfl
    have hfs43 := zF BK208.out 0
    have hns43_0 := NB206_208.out
    have hns43_1 := NB207_208.out
    have hms43_0 := NB208_206.out
    have hms43_1 := NB208_207.out
    have hs45 : w42.cell? ⟨gb208, 1, none⟩ = some (.slice none 0 0) := (zC BK208.out 1).trans rfl
    have hfs45 := zF BK208.out 1
    have hns45_0 := NB206_208.out
    have hns45_1 := NB207_208.out
    have hms45_0 := NB208_206.out
    have hms45_1 := NB208_207.out
    have hs47 : w42.cell? ⟨gb208, 2, none⟩ = some (.slice none 0 0) := (zC BK208.out 2).trans rfl
    have hfs47 := zF BK208.out 2
    have hns47_0 := NB206_208.out
    have hns47_1 := NB207_208.out
    have hms47_0 := NB208_206.out
    have hms47_1 := NB208_207.out
    have hs48 : w42.cell? ⟨gb208, 3, none⟩ = some (.int .i64 0) := (zC BK208.out 3).trans rfl
    have hfs48 := zF BK208.out 3
    have hns48_0 := NB206_208.out
    have hns48_1 := NB207_208.out
    have hms48_0 := NB208_206.out
    have hms48_1 := NB208_207.out
    refine skip_ (w1 := ?_) (by rfl) rfl ?_ ?_
    rotate_left
    ·go_simp
     rfl
    refine hK.out _ _ ⟨((cell_far (p := ⟨gb208, _, none⟩) NB206_208.out _).trans (((cell_far (p := ⟨gb208, _, none⟩) NB206_208.out _).trans (((cell_far (p := ⟨gb208, _, none⟩) NB206_208.out _).trans (((cell_far (p := ⟨gb208, _, none⟩) NB206_208.out _).trans (hHeld.1)))))))), ((cell_far (p := ⟨gb208, _, none⟩) NB206_208.out _).trans (((cell_far (p := ⟨gb208, _, none⟩) NB206_208.out _).trans (((cell_far (p := ⟨gb208, _, none⟩) NB206_208.out _).trans (((cell_far (p := ⟨gb208, _, none⟩) NB206_208.out _).trans (hHeld.2.1)))))))), ((cell_far (p := ⟨gb208, _, none⟩) NB206_208.out _).trans (((cell_far (p := ⟨gb208, _, none⟩) NB206_208.out _).trans (((cell_far (p := ⟨gb208, _, none⟩) NB206_208.out _).trans (((cell_far (p := ⟨gb208, _, none⟩) NB206_208.out _).trans (hHeld.2.2.1)))))))), ((cell_far (p := ⟨gb208, _, none⟩) NB206_208.out _).trans (((cell_far (p := ⟨gb208, _, none⟩) NB206_208.out _).trans (((cell_far (p := ⟨gb208, _, none⟩) NB206_208.out _).trans (((cell_far (p := ⟨gb208, _, none⟩) NB206_208.out _).trans (hHeld.2.2.2.1)))))))), ((cell_far (p := ⟨gb208, _, none⟩) NB207_208.out _).trans (((cell_far (p := ⟨gb208, _, none⟩) NB207_208.out _).trans (((cell_far (p := ⟨gb208, _, none⟩) NB207_208.out _).trans (((cell_far (p := ⟨gb208, _, none⟩) NB207_208.out _).trans (hHeld.2.2.2.2.1)))))))), ((cell_far (p := ⟨gb208, _, none⟩) NB207_208.out _).trans (((cell_far (p := ⟨gb208, _, none⟩) NB207_208.out _).trans (((cell_far (p := ⟨gb208, _, none⟩) NB207_208.out _).trans (((cell_far (p := ⟨gb208, _, none⟩) NB207_208.out _).trans (hHeld.2.2.2.2.2.1)))))))), ((cell_far (p := ⟨gb208, _, none⟩) NB207_208.out _).trans (((cell_far (p := ⟨gb208, _, none⟩) NB207_208.out _).trans (((cell_far (p := ⟨gb208, _, none⟩) NB207_208.out _).trans (((cell_far (p := ⟨gb208, _, none⟩) NB207_208.out _).trans (hHeld.2.2.2.2.2.2.1)))))))), ((cell_far (p := ⟨gb208, _, none⟩) NB207_208.out _).trans (((cell_far (p := ⟨gb208, _, none⟩) NB207_208.out _).trans (((cell_far (p := ⟨gb208, _, none⟩) NB207_208.out _).trans (((cell_far (p := ⟨gb208, _, none⟩) NB207_208.out _).trans (hHeld.2.2.2.2.2.2.2.1)))))))), ((cell_far (p := ⟨gb208, _, none⟩) NB207_208.out _).trans (((cell_far (p := ⟨gb208, _, none⟩) NB207_208.out _).trans (((cell_far (p := ⟨gb208, _, none⟩) NB207_208.out _).trans (((cell_far (p := ⟨gb208, _, none⟩) NB207_208.out _).trans (hHeld.2.2.2.2.2.2.2.2.1)))))))), ((cell_far (p := ⟨gb208, _, none⟩) NB207_208.out _).trans (((cell_far (p := ⟨gb208, _, none⟩) NB207_208.out _).trans (((cell_far (p := ⟨gb208, _, none⟩) NB207_208.out _).trans (((cell_far (p := ⟨gb208, _, none⟩) NB207_208.out _).trans (hHeld.2.2.2.2.2.2.2.2.2))))))))⟩ (fun hHeld => ?_)
    clear hK K
    refine done_ (by kernel_rfl) ?_
    try go_wp2
    refine bodyPost_ret (results_cell_row rfl _ _ gb208 30 #[.int .i64 t220, .slice Ao44 t221.length co44, .slice Ao46 t224.length co46, .int .i64 t227] (0, 0) _ rfl (by (with_reducible repeat (first | refine zN ?_ _ | refine zD ?_ | refine zA ?_ _)); refine blk_put (cs := #[.int .i64 t220, .slice Ao44 t221.length co44, .slice Ao46 t224.length co46, .int .i64 0]) ?_ 3 _ rfl; (with_reducible repeat (first | refine zN ?_ _ | refine zD ?_ | refine zA ?_ _)); refine blk_put (cs := #[.int .i64 t220, .slice Ao44 t221.length co44, .slice none 0 0, .int .i64 0]) ?_ 2 _ rfl; (with_reducible repeat (first | refine zN ?_ _ | refine zD ?_ | refine zA ?_ _)); refine blk_put (cs := #[.int .i64 t220, .slice none 0 0, .slice none 0 0, .int .i64 0]) ?_ 1 _ rfl; (with_reducible repeat (first | refine zN ?_ _ | refine zD ?_ | refine zA ?_ _)); refine blk_put (cs := #[.int .i64 0, .slice none 0 0, .slice none 0 0, .int .i64 0]) ?_ 0 _ rfl; (with_reducible repeat (first | refine zN ?_ _ | refine zD ?_ | refine zA ?_ _)); exact BK208.out) Try.underlying30 rfl (by kernel_rfl)) rfl ?_
    exact ⟨_, _, by first | rfl | (simp [errW_none, errW_some] <;> rfl) | (simp [*, errW_none, errW_some] <;> rfl), by (with_reducible repeat (first | apply qA | apply qN | apply qD)); exact Kd.R_mono (qF (p := ⟨gb208, 3, none⟩) (qF (p := ⟨gb208, 2, none⟩) (qF (p := ⟨gb208, 1, none⟩) (qF (p := ⟨gb208, 0, none⟩) (Kd.R_types HO223.out BK208.out (by decide)) (fun _ hk => hk.2) (.int .i64 t220)) (fun _ hk => hk.2) (.slice Ao44 t221.length co44)) (fun _ hk => hk.2) (.slice Ao46 t224.length co46)) (fun _ hk => hk.2) (.int .i64 t227)) (fun _ hk => hk.1), by (with_reducible repeat (first | apply qA | apply qN | apply qD)); exact Kd.R_mono (qF (p := ⟨gb208, 3, none⟩) (qF (p := ⟨gb208, 2, none⟩) (qF (p := ⟨gb208, 1, none⟩) (qF (p := ⟨gb208, 0, none⟩) (Kd.R_types HO226.out BK208.out (by decide)) (fun _ hk => hk.2) (.int .i64 t220)) (fun _ hk => hk.2) (.slice Ao44 t221.length co44)) (fun _ hk => hk.2) (.slice Ao46 t224.length co46)) (fun _ hk => hk.2) (.int .i64 t227)) (fun _ hk => hk.1), by repeat (first | (with_reducible first | exact HB.out | apply yA | apply yN | apply yD | refine yS ?_ GE206.out | refine yS ?_ GE207.out | refine yS ?_ GE208.out) | exact HB.out)⟩

open Go.Proofs.YtcnipdbommmkmaaAl Go.Proofs.YtcnipdbommmkmaaSq
/-! ### spec_l6Noughts: function 66 -/
def spec_l6Noughts.l0 : Nat → Int → List Int → Option (List Int)
 | 0, _, _ => none
 | k + 1, x0, x3 => if x0 > 0 then (if x3.length < 17592186044416 then (spec_l6Noughts.l0 k (wrap64 (x0 - 1)) (x3 ++ [0])) else (none)) else (some x3)
def spec_l6Noughts.f (k : Nat) (a0 : Int) : Option (List Int) := spec_l6Noughts.l0 k a0 (([] : List Int))
theorem spec_l6Noughts.mono_l : ∀ k, (∀ y0 y1, LeO (spec_l6Noughts.l0 k y0 y1) (spec_l6Noughts.l0 (k + 1) y0 y1))
 | 0 => fun _ _ r h => by simp [spec_l6Noughts.l0] at h
 | k + 1 => by
  have ih0 := spec_l6Noughts.mono_l k
  ·intro y0 y1
   unfold spec_l6Noughts.l0
   repeat' first
   | (with_reducible exact ih0 _ _)
   | (with_reducible exact LeO.refl _)
   | (with_reducible exact LeO.none _)
   | (with_reducible refine LeO.ite ?_ ?_)
   | (with_reducible refine LeO.bind ?_ (fun _ => ?_))
   | exact ih0 _ _
   | exact LeO.none _
   | refine LeO.ite ?_ ?_
   | refine LeO.bind ?_ (fun _ => ?_)
theorem spec_l6Noughts.mono : ∀ a0 k, LeO (spec_l6Noughts.f k a0) (spec_l6Noughts.f (k + 1) a0) := by
 intro a0 k
 have ih0 := spec_l6Noughts.mono_l k
 unfold spec_l6Noughts.f
 repeat' first
   | (with_reducible exact ih0 _ _)
   | (with_reducible exact LeO.refl _)
   | (with_reducible exact LeO.none _)
   | (with_reducible refine LeO.ite ?_ ?_)
   | (with_reducible refine LeO.bind ?_ (fun _ => ?_))
   | exact ih0 _ _
   | exact LeO.none _
   | refine LeO.ite ?_ ?_
   | refine LeO.bind ?_ (fun _ => ?_)
set_option maxHeartbeats 8000000 in
set_option maxRecDepth 100000 in
theorem spec_l6Noughts.calls (k : Nat) (a0 : Int) (r : List Int) (w : World) (h : spec_l6Noughts.f k a0 = some r) :
  Calls Try.prog 66 #[.int .i64 a0] w fun e w' => ∃ v0_ : Value, e = .returned (v0_) ∧ Kd.R (Kd.int .i64) 3 w' w.heap.size (fun _ => True) v0_ r ∧ Below w.heap.size w w' := by
 have HB := qM (Below.refl w.heap.size w)
 have H : (spec_l6Noughts.l0 k a0 (([] : List Int))) = some r := h
 clear h
 obtain ⟨y228, hy228⟩ : ∃ y_ : List Int, y_ = (([] : List Int)) := ⟨_, rfl⟩
 replace H : (spec_l6Noughts.l0 k a0 y228) = some r := by first | (rw [hy228]; with_reducible exact H) | (have H2_ := (Option.bind_some _ _).symm.trans H; rw [hy228]; with_reducible exact H2_) | (have H2_ := (Option.bind_some _ _).symm.trans H; with_reducible exact H2_) | with_reducible exact H | (rw [hy228]; exact H) | exact H
 have Ny228 := qM hy228
 clear hy228
 have H' := qM H
 clear H
 go_enter Try.func66, Try.ntmps66
 go_wp2_with (first | ((with_reducible refine gate_dst (N := 4) rfl ?_); refine Kd.R_lit (Kd.int .i64) _ 3 ?hg (N := 4) ?hd (xs := ([] : List Int)) (inner := []) (ok := fun _ => True) (okp := fun _ => True) ?hr ?hp (fun _ hk => hk) trivial (Below.refl _ _) (Nat.le_refl _) (by simp) ?_; (case hd => rfl); (case hg => rfl); (case hr => first | (go_simp; done) | (go_simp; rfl)); (case hp => exact (Reps.none _ _)); intro v229 w2 ho3 hb hg_ hnew_; clear hg_ hnew_; (first | rw [← Ny228.out] at ho3 | (simp only [Int.reduceToNat] at ho3; rw [← Ny228.out] at ho3)); have n0_ := qM (Kd.R_lower ho3 (below_size (yb HB))); have n1_ := qM (below_step (yb HB) hb); clear HB; revert n0_ n1_; intro HO230 HB; clear hb ho3))
 go_loopg [0, 3] k (fun kq v0 v3 w' => ∃ (x0_1 : Int) (x3_1 : List Int), v0 = .int .i64 x0_1 ∧ Aside0 (spec_l6Noughts.l0 kq x0_1 x3_1 = some r) ∧ Aside0 (kq ≤ k) ∧ Aside0 (Kd.R (Kd.int .i64) 3 w' w.heap.size (fun _ => True) v3 x3_1) ∧ Aside0 (Below w.heap.size w w'))
 case atStart => exact ⟨(a0), (y228), (by first | rfl | (simp; done) | (simp [*]; done)), H', ⟨Nat.le_refl _⟩, ⟨by (with_reducible repeat (first | apply qA | apply qN | apply qD)); exact HO230.out⟩, ⟨by repeat (first | (with_reducible first | exact HB.out | apply yA | apply yN | apply yD) | exact HB.out)⟩⟩
 case round =>
  clear H'
  try clear p2
  obtain ⟨x0_1, x3_1, rfl, HA, HK1, HO_3, HB⟩ := hrel
  cases gk with
  | zero => exact absurd HA.out (by simp [spec_l6Noughts.l0])
  | succ k1 =>
   have H := HA.out
   clear HA
   simp only [spec_l6Noughts.l0] at H
   by_cases c4 : x0_1 > 0
   ·rw [if_pos c4] at H
    have c4b0 : decide (0 < x0_1) = true := decide_eq_true c4
    clear c4
    by_cases c5 : x3_1.length < 17592186044416
    ·rw [if_pos c5] at H
     have LMc5 := qM c5
     clear c5
     obtain ⟨y231, hy231⟩ : ∃ y_ : List Int, y_ = (x3_1 ++ [0]) := ⟨_, rfl⟩
     replace H : (spec_l6Noughts.l0 k1 (wrap64 (x0_1 - 1)) y231) = some r := by first | (rw [hy231]; with_reducible exact H) | (have H2_ := (Option.bind_some _ _).symm.trans H; rw [hy231]; with_reducible exact H2_) | (have H2_ := (Option.bind_some _ _).symm.trans H; with_reducible exact H2_) | with_reducible exact H | (rw [hy231]; exact H) | exact H
     have Ny231 := qM hy231
     clear hy231
     have H' := qM H
     clear H
     go_wp2_with (first | ((with_reducible refine gate_builtin (b := .append) (xs := #[.tmp 7, .tmp 8]) rfl ?_); at_builtin; refine Kd.R_append (Kd.int .i64) (w0 := w) w.heap.size rfl (.tmp 7) (.tmp 8) 22 3 (.int .i64 0) 8 rfl Try.underlying22 info3 rfl (by decide) (by omega) u3 x3_1 0 [.int .i64 0] (fun _ => True) (fun _ => False) rfl rfl ?aP (fun _ hk => hk.elim) ?aF ?aO ?aB ?aS ?aL ?_; (case aP => exact rfl); (case aB => exact (yb HB)); (case aF => exact (fun _ _ => trivial)); (case aO => exact (qz HO_3)); (case aS => exact (below_size (yb HB))); (case aL => have := LMc5.out; omega); intro v232 w6 ho hb hg hat; rw [← Ny231.out] at ho; have n0_ := qM (hb); have n1_ := qM (ho); clear HB HO_3; revert n0_ n1_; intro HB HO233; clear ho hb hg hat))
     go_roundg k1
     case measure => have := HK1.out; omega
     case rel => exact ⟨(wrap64 (x0_1 - 1)), (y231), (by first | rfl | (simp; done) | (simp [*]; done)), H', ⟨by have := HK1.out; omega⟩, ⟨by (with_reducible repeat (first | apply qA | apply qN | apply qD)); exact HO233.out⟩, ⟨by repeat (first | (with_reducible first | exact HB.out | apply yA | apply yN | apply yD) | exact HB.out)⟩⟩
    ·rw [if_neg c5] at H
     exact absurd H (by simp)
   ·rw [if_neg c4] at H
    have c4b0 : decide (0 < x0_1) = false := decide_eq_false c4
    clear c4
    obtain rfl := Option.some.inj H
    go_wp2
    go_ret
    exact ⟨_, by first | rfl | (simp [errW_none, errW_some] <;> rfl) | (simp [*, errW_none, errW_some] <;> rfl), by (with_reducible repeat (first | apply qA | apply qN | apply qD)); exact HO_3.out, by repeat (first | (with_reducible first | exact HB.out | apply yA | apply yN | apply yD) | exact HB.out)⟩

open Go.Proofs.YtcnipdbommmkmaaAl Go.Proofs.YtcnipdbommmkmaaSq
/-! ### spec_VmNew: function 25 -/
def spec_VmNew.f (k : Nat)  : Option (Int × List Int × List Int × Int) := (spec_l6Noughts.f k 4).bind fun t235 => ((spec_l6Noughts.f k 8).bind fun t238 => (some (0, t235, t238, 0)))
theorem spec_VmNew.mono : ∀ k, LeO (spec_VmNew.f k ) (spec_VmNew.f (k + 1) ) := by
 intro  k
 unfold spec_VmNew.f
 repeat' first
   | (with_reducible exact spec_l6Noughts.mono _ _)
   | (with_reducible exact LeO.refl _)
   | (with_reducible exact LeO.none _)
   | (with_reducible refine LeO.ite ?_ ?_)
   | (with_reducible refine LeO.bind ?_ (fun _ => ?_))
   | exact spec_l6Noughts.mono _ _
   | exact LeO.none _
   | refine LeO.ite ?_ ?_
   | refine LeO.bind ?_ (fun _ => ?_)
set_option maxHeartbeats 8000000 in
set_option maxRecDepth 100000 in
theorem spec_VmNew.calls (k : Nat)  (r1 : Int) (r2 : List Int) (r3 : List Int) (r4 : Int) (w : World) (h : spec_VmNew.f k  = some (r1, r2, r3, r4)) :
  Calls Try.prog 25 #[] w fun e w' => ∃ v1_ v2_ : Value, e = .returned (.agg #[.int .i64 r1, v1_, v2_, .int .i64 r4]) ∧ Kd.R (Kd.int .i64) 3 w' w.heap.size (fun k_ => some k_ ≠ (v2_ : Value).ownBlock) v1_ r2 ∧ Kd.R (Kd.int .i64) 3 w' w.heap.size (fun k_ => some k_ ≠ (v1_ : Value).ownBlock) v2_ r3 ∧ Below w.heap.size w w' := by
 have hu30 := Try.underlying30
 have HB := qM (Below.refl w.heap.size w)
 have H : ((spec_l6Noughts.f k 4).bind fun t235 => ((spec_l6Noughts.f k 8).bind fun t238 => (some (0, t235, t238, 0)))) = some (r1, r2, r3, r4) := h
 clear h
 replace H := Option.bind_eq_some_iff.mp H
 obtain ⟨t235, A10, H⟩ := H
 replace H : ((spec_l6Noughts.f k 8).bind fun t238 => (some (0, t235, t238, 0))) = some (r1, r2, r3, r4) := H
 have A1 := qM A10
 clear A10
 replace H := Option.bind_eq_some_iff.mp H
 obtain ⟨t238, A20, H⟩ := H
 replace H : (some (0, t235, t238, 0)) = some (r1, r2, r3, r4) := H
 have A2 := qM A20
 clear A20
 simp only [Option.some.injEq, Prod.mk.injEq] at H
 obtain ⟨rfl, rfl, rfl, rfl⟩ := H
 go_enter Try.func25, Try.ntmps25
 go_wp2_with (first | ((with_reducible refine gate_dst (N := 0) rfl ?_); refine box_event ?hg (N := 0) ?hd (cs := #[.int .i64 0, .slice none 0 0, .slice none 0 0, .int .i64 0]) (t := 30) ?hr ?_; (case hd => rfl); (case hg => rfl); (case hr => first | (go_simp; done) | (go_simp; rfl)); intro gb234 hg w3 hbox hb; have n0_ := qM (below_step (yb HB) hb); have n1_ := qM (hbox); have n2_ := qM ((by rw [hg]; exact (below_size (yb HB)) : w.heap.size ≤ gb234)); have n3_ := qM ((by rw [hg]; exact (below_size (yb HB)) : w.heap.size ≤ gb234)); clear HB; revert n0_ n1_ n2_ n3_; intro HB BK234 GW234 GE234; clear hb hbox hg) | ((with_reducible refine gate_callee (f := 66) rfl ?_); refine goesL_ (some 1) rfl rfl Try.func66 (by kernel_rfl) rfl #[.int .i64 4] rfl (by (try simp only [List.map_toArray, List.map_cons, List.map_nil]); first | done | rfl | (simp only [List.length_drop, List.length_take]; rfl)) ?_; (with_reducible refine (spec_l6Noughts.calls k 4 t235 _ A1.out).mono ?_); rintro e w4 ⟨v236, rfl, ho0, hb⟩; refine ⟨_, rfl, ?_⟩; have n0_ := qM (Kd.R_lower ho0 (below_size (yb HB))); have n1_ := qM (blk_below (bz BK234) hb); have n2_ := qM (below_step (yb HB) hb); clear BK234 HB; revert n0_ n1_ n2_; intro HO237 BK234 HB; (try clear hb); (try clear hb2); (try clear hk); (try clear hi); (try clear ho0)) | ((with_reducible refine gate_callee (f := 66) rfl ?_); refine goesL_ (some 2) rfl rfl Try.func66 (by kernel_rfl) rfl #[.int .i64 8] rfl (by (try simp only [List.map_toArray, List.map_cons, List.map_nil]); first | done | rfl | (simp only [List.length_drop, List.length_take]; rfl)) ?_; (with_reducible refine (spec_l6Noughts.calls k 8 t238 _ A2.out).mono ?_); rintro e w5 ⟨v239, rfl, ho0, hb⟩; refine ⟨_, rfl, ?_⟩; have n0_ := qM (Kd.R_elder' (qz HO237) (Kd.R_base ho0) hb); have n1_ := qM (Kd.R_lower (Kd.R_new' ho0 (Kd.R_lt (qz HO237))) (below_size (yb HB))); have n2_ := qM (blk_below (bz BK234) hb); have n3_ := qM (below_step (yb HB) hb); clear HO237 BK234 HB; revert n0_ n1_ n2_ n3_; intro HO237 HO240 BK234 HB; (try clear hb); (try clear hb2); (try clear hk); (try clear hi); (try clear ho0); obtain ⟨Ao6, co6, eo6⟩ := Kd.R_slice HO240.out; subst eo6; obtain ⟨Ao7, co7, eo7⟩ := Kd.R_slice HO237.out; subst eo7; have hcz8_0 : w5.cell? ⟨gb234, 0, none⟩ = some (.int .i64 0) := (zC BK234.out 0).trans rfl; have hcz8_1 : w5.cell? ⟨gb234, 1, none⟩ = some (.slice none 0 0) := (zC BK234.out 1).trans rfl; have hcz8_2 : w5.cell? ⟨gb234, 2, none⟩ = some (.slice none 0 0) := (zC BK234.out 2).trans rfl; have hcz8_3 : w5.cell? ⟨gb234, 3, none⟩ = some (.int .i64 0) := (zC BK234.out 3).trans rfl; have hfz8_0 := zF BK234.out 0; have hfz8_1 := zF BK234.out 1; have hfz8_2 := zF BK234.out 2; have hfz8_3 := zF BK234.out 3))
 refine bodyPost_ret (results_cell_row rfl _ _ gb234 30 #[.int .i64 0, .slice Ao7 t235.length co7, .slice Ao6 t238.length co6, .int .i64 0] (0, 0) _ rfl (by (with_reducible repeat (first | refine zN ?_ _ | refine zD ?_ | refine zA ?_ _)); refine blk_put (cs := #[.int .i64 0, .slice Ao7 t235.length co7, .slice Ao6 t238.length co6, .int .i64 0]) ?_ 3 _ rfl; (with_reducible repeat (first | refine zN ?_ _ | refine zD ?_ | refine zA ?_ _)); refine blk_put (cs := #[.int .i64 0, .slice Ao7 t235.length co7, .slice none 0 0, .int .i64 0]) ?_ 2 _ rfl; (with_reducible repeat (first | refine zN ?_ _ | refine zD ?_ | refine zA ?_ _)); refine blk_put (cs := #[.int .i64 0, .slice none 0 0, .slice none 0 0, .int .i64 0]) ?_ 1 _ rfl; (with_reducible repeat (first | refine zN ?_ _ | refine zD ?_ | refine zA ?_ _)); refine blk_put (cs := #[.int .i64 0, .slice none 0 0, .slice none 0 0, .int .i64 0]) ?_ 0 _ rfl; (with_reducible repeat (first | refine zN ?_ _ | refine zD ?_ | refine zA ?_ _)); exact BK234.out) Try.underlying30 rfl (by kernel_rfl)) rfl ?_
 exact ⟨_, _, by first | rfl | (simp [errW_none, errW_some] <;> rfl) | (simp [*, errW_none, errW_some] <;> rfl), by (with_reducible repeat (first | apply qA | apply qN | apply qD)); exact Kd.R_mono (qF (p := ⟨gb234, 3, none⟩) (qF (p := ⟨gb234, 2, none⟩) (qF (p := ⟨gb234, 1, none⟩) (qF (p := ⟨gb234, 0, none⟩) (Kd.R_types HO237.out BK234.out (by decide)) (fun _ hk => hk.2) (.int .i64 0)) (fun _ hk => hk.2) (.slice Ao7 t235.length co7)) (fun _ hk => hk.2) (.slice Ao6 t238.length co6)) (fun _ hk => hk.2) (.int .i64 0)) (fun _ hk => hk.1.2), by (with_reducible repeat (first | apply qA | apply qN | apply qD)); exact Kd.R_mono (qF (p := ⟨gb234, 3, none⟩) (qF (p := ⟨gb234, 2, none⟩) (qF (p := ⟨gb234, 1, none⟩) (qF (p := ⟨gb234, 0, none⟩) (Kd.R_types HO240.out BK234.out (by decide)) (fun _ hk => hk.2) (.int .i64 0)) (fun _ hk => hk.2) (.slice Ao7 t235.length co7)) (fun _ hk => hk.2) (.slice Ao6 t238.length co6)) (fun _ hk => hk.2) (.int .i64 0)) (fun _ hk => hk.1.2), by repeat (first | (with_reducible first | exact HB.out | apply yA | apply yN | apply yD | refine yS ?_ GE234.out) | exact HB.out)⟩

open Go.Proofs.YtcnipdbommmkmaaAl Go.Proofs.YtcnipdbommmkmaaSq
/-! ### impl_VmNew: function 26 -/
def impl_VmNew.f  : Option (Int × List Int × List Int × Int) := if 4 ≤ 35184372088832 then (if 8 ≤ 35184372088832 then (some (0, (List.replicate 4 0), (List.replicate 8 0), 0)) else (none)) else (none)
set_option maxHeartbeats 8000000 in
set_option maxRecDepth 100000 in
theorem impl_VmNew.calls  (r1 : Int) (r2 : List Int) (r3 : List Int) (r4 : Int) (w : World) (h : impl_VmNew.f  = some (r1, r2, r3, r4)) :
  Calls Try.prog 26 #[] w fun e w' => ∃ v1_ v2_ : Value, e = .returned (.agg #[.int .i64 r1, v1_, v2_, .int .i64 r4]) ∧ Kd.R (Kd.int .i64) 3 w' w.heap.size (fun k_ => some k_ ≠ (v2_ : Value).ownBlock) v1_ r2 ∧ Kd.R (Kd.int .i64) 3 w' w.heap.size (fun k_ => some k_ ≠ (v1_ : Value).ownBlock) v2_ r3 ∧ Below w.heap.size w w' := by
 have hu30 := Try.underlying30
 have HB := qM (Below.refl w.heap.size w)
 have H : (if 4 ≤ 35184372088832 then (if 8 ≤ 35184372088832 then (some (0, (List.replicate 4 0), (List.replicate 8 0), 0)) else (none)) else (none)) = some (r1, r2, r3, r4) := h
 clear h
 by_cases c1 : 4 ≤ 35184372088832
 ·rw [if_pos c1] at H
  have c1b0 := eq_true c1
  have c1b1 : decide (4 ≤ 35184372088832) = true := decide_eq_true c1
  clear c1
  obtain ⟨y242, hy242⟩ : ∃ y_ : List Int, y_ = (List.replicate 4 0) := ⟨_, rfl⟩
  replace H : (if 8 ≤ 35184372088832 then (some (0, y242, (List.replicate 8 0), 0)) else (none)) = some (r1, r2, r3, r4) := by first | (rw [hy242]; with_reducible exact H) | (have H2_ := (Option.bind_some _ _).symm.trans H; rw [hy242]; with_reducible exact H2_) | (have H2_ := (Option.bind_some _ _).symm.trans H; with_reducible exact H2_) | with_reducible exact H | (rw [hy242]; exact H) | exact H
  have Ny242 := qM hy242
  clear hy242
  by_cases c2 : 8 ≤ 35184372088832
  ·rw [if_pos c2] at H
   have c2b0 := eq_true c2
   have c2b1 : decide (8 ≤ 35184372088832) = true := decide_eq_true c2
   clear c2
   obtain ⟨y245, hy245⟩ : ∃ y_ : List Int, y_ = (List.replicate 8 0) := ⟨_, rfl⟩
   replace H : (some (0, y242, y245, 0)) = some (r1, r2, r3, r4) := by first | (rw [hy245]; with_reducible exact H) | (have H2_ := (Option.bind_some _ _).symm.trans H; rw [hy245]; with_reducible exact H2_) | (have H2_ := (Option.bind_some _ _).symm.trans H; with_reducible exact H2_) | with_reducible exact H | (rw [hy245]; exact H) | exact H
   have Ny245 := qM hy245
   clear hy245
   simp only [Option.some.injEq, Prod.mk.injEq] at H
   obtain ⟨rfl, rfl, rfl, rfl⟩ := H
   go_enter Try.func26, Try.ntmps26
   try go_wp2_with (first | ((with_reducible refine gate_dst (N := 0) rfl ?_); refine box_event ?hg (N := 0) ?hd (cs := #[.int .i64 0, .slice none 0 0, .slice none 0 0, .int .i64 0]) (t := 30) ?hr ?_; (case hd => rfl); (case hg => rfl); (case hr => first | (go_simp; done) | (go_simp; rfl)); intro gb241 hg w3 hbox hb; have n0_ := qM (below_step (yb HB) hb); have n1_ := qM (hbox); have n2_ := qM ((by rw [hg]; exact (below_size (yb HB)) : w.heap.size ≤ gb241)); have n3_ := qM ((by rw [hg]; exact (below_size (yb HB)) : w.heap.size ≤ gb241)); clear HB; revert n0_ n1_ n2_ n3_; intro HB BK241 GW241 GE241; clear hb hbox hg))
   have n0_ := qM (zD BK241.out)
   have n1_ := qM (yD HB.out)
   clear BK241 HB
   revert n0_ n1_
   intro BK241 HB
   refine start_ (n := 4) (S := fun w' => True) (ds := []) #[false, false, false, false] (by kernel_rfl) rfl rfl trivial (fun hHeld => ?_)
   generalize w3.drew = w4 at BK241 HB hHeld ⊢
   refine join_ (σ := Value × Value) 2 #[true, true, false, false] (fun s_ => [(1, s_.1), (2, s_.2)]) (fun s_ w' => (Kd.R (Kd.int .i64) 3 w' w.heap.size (fun k_ => some k_ ≠ (s_.2 : Value).ownBlock) s_.1 y242) ∧ (Kd.R (Kd.int .i64) 3 w' w.heap.size (fun k_ => some k_ ≠ (s_.1 : Value).ownBlock) s_.2 y245) ∧ (w'.heap[gb241]? = some (.cells #[.int .i64 0, .slice none 0 0, .slice none 0 0, .int .i64 0] 30 (0, 0))) ∧ (Below w.heap.size w w')) ?_ ?_
   rotate_left
   ·intro hCont
    refine two_ (i := 0) (j := 1) (Ni := some 1) (Nj := some 2) #[true, false, false, false] #[false, true, false, false] rfl rfl rfl rfl (by kernel_rfl) (by decide) (by decide) (fun K hK => ?_) (fun K hK => ?_)
    ·skip
     refine Kd.R_make_step (Kd.int .i64) _ 3 (by rfl) (N := 1) rfl 22 _ _ rfl 4 rfl rfl Try.underlying22 (.int .i64 0) 8 info3 rfl (by decide) (by omega) 0 (ok := fun _ => True) (okp := fun _ => True) rfl (fun _ hk => hk) trivial (by omega) (by omega) (Below.refl _ _) (Nat.le_refl _) ?_
     intro v243 w5 ho6 hb hg_ hnew_
     clear hg_ hnew_
     (first | rw [← Ny242.out] at ho6 | (simp only [Int.reduceToNat] at ho6; rw [← Ny242.out] at ho6))
     have n0_ := qM (Kd.R_lower ho6 (below_size (yb HB)))
     have n1_ := qM (blk_below (bz BK241) hb)
     have n2_ := qM (below_step (yb HB) hb)
     clear BK241 HB
     revert n0_ n1_ n2_
     intro HO244 BK241 HB
     clear hb ho6
     refine hK.out _ _ trivial (fun hHeld => ?_)
     clear hK K
     refine norm_ (a' := ?_) ?_ ?_
     rotate_left
     ·show Act.put _ (some 1) _ = _
      simp only [Act.put, List.setIfInBounds_toArray, List.set_cons_zero, List.set_cons_succ, i64_w, i32_w]
      rfl
     refine one_ (i := 1) (N := some 2) #[true, true, false, false] rfl rfl (by kernel_rfl) (by decide) (fun K hK => ?_)
     refine Kd.R_make_step (Kd.int .i64) _ 3 (by rfl) (N := 2) rfl 22 _ _ rfl 8 rfl rfl Try.underlying22 (.int .i64 0) 8 info3 rfl (by decide) (by omega) 0 (ok := fun _ => True) (okp := fun _ => True) rfl (fun _ hk => hk) trivial (by omega) (by omega) (Below.refl _ _) (Nat.le_refl _) ?_
     intro v246 w7 ho8 hb hg_ hnew_
     clear hg_ hnew_
     (first | rw [← Ny245.out] at ho8 | (simp only [Int.reduceToNat] at ho8; rw [← Ny245.out] at ho8))
     have n0_ := qM (Kd.R_elder' (qz HO244) (Kd.R_base ho8) hb)
     have n1_ := qM (Kd.R_lower (Kd.R_new' ho8 (Kd.R_lt (qz HO244))) (below_size (yb HB)))
     have n2_ := qM (blk_below (bz BK241) hb)
     have n3_ := qM (below_step (yb HB) hb)
     clear HO244 BK241 HB
     revert n0_ n1_ n2_ n3_
     intro HO244 HO247 BK241 HB
     clear hb ho8
     obtain ⟨Ao9, co9, eo9⟩ := Kd.R_slice HO247.out
     (first | subst eo9 | (injection eo9 with f1_ f2_ f3_; have f4_ := f1_.symm; have f5_ := f3_.symm; clear f1_ f2_ f3_; subst f4_; subst f5_))
     obtain ⟨Ao10, co10, eo10⟩ := Kd.R_slice HO244.out
     (first | subst eo10 | (injection eo10 with f1_ f2_ f3_; have f4_ := f1_.symm; have f5_ := f3_.symm; clear f1_ f2_ f3_; subst f4_; subst f5_))
     refine hK.out _ _ trivial (fun hHeld => ?_)
     clear hK K
     refine norm_ (a' := ?_) ?_ ?_
     rotate_left
     ·show Act.put _ (some 2) _ = _
      simp only [Act.put, List.setIfInBounds_toArray, List.set_cons_zero, List.set_cons_succ, i64_w, i32_w]
      rfl
     exact norm_ (by simp only [putAll, Act.put, List.setIfInBounds_toArray, List.set_cons_zero, List.set_cons_succ]) (hCont (.slice Ao10 y242.length co10, .slice Ao9 y245.length co9) _ ⟨(by (with_reducible repeat (first | apply qA | apply qN | apply qD)); exact Kd.R_mono HO244.out (fun _ hk => hk.2)), (by (with_reducible repeat (first | apply qA | apply qN | apply qD)); exact Kd.R_mono HO247.out (fun _ hk => hk.2)), (bz BK241), (yb HB)⟩)
    ·skip
     refine Kd.R_make_step (Kd.int .i64) _ 3 (by rfl) (N := 2) rfl 22 _ _ rfl 8 rfl rfl Try.underlying22 (.int .i64 0) 8 info3 rfl (by decide) (by omega) 0 (ok := fun _ => True) (okp := fun _ => True) rfl (fun _ hk => hk) trivial (by omega) (by omega) (Below.refl _ _) (Nat.le_refl _) ?_
     intro v246 w5 ho6 hb hg_ hnew_
     clear hg_ hnew_
     (first | rw [← Ny245.out] at ho6 | (simp only [Int.reduceToNat] at ho6; rw [← Ny245.out] at ho6))
     have n0_ := qM (Kd.R_lower ho6 (below_size (yb HB)))
     have n1_ := qM (blk_below (bz BK241) hb)
     have n2_ := qM (below_step (yb HB) hb)
     clear BK241 HB
     revert n0_ n1_ n2_
     intro HO247 BK241 HB
     clear hb ho6
     refine hK.out _ _ trivial (fun hHeld => ?_)
     clear hK K
     refine norm_ (a' := ?_) ?_ ?_
     rotate_left
     ·show Act.put _ (some 2) _ = _
      simp only [Act.put, List.setIfInBounds_toArray, List.set_cons_zero, List.set_cons_succ, i64_w, i32_w]
      rfl
     refine one_ (i := 0) (N := some 1) #[true, true, false, false] rfl rfl (by kernel_rfl) (by decide) (fun K hK => ?_)
     refine Kd.R_make_step (Kd.int .i64) _ 3 (by rfl) (N := 1) rfl 22 _ _ rfl 4 rfl rfl Try.underlying22 (.int .i64 0) 8 info3 rfl (by decide) (by omega) 0 (ok := fun _ => True) (okp := fun _ => True) rfl (fun _ hk => hk) trivial (by omega) (by omega) (Below.refl _ _) (Nat.le_refl _) ?_
     intro v243 w7 ho8 hb hg_ hnew_
     clear hg_ hnew_
     (first | rw [← Ny242.out] at ho8 | (simp only [Int.reduceToNat] at ho8; rw [← Ny242.out] at ho8))
     have n0_ := qM (Kd.R_elder' (qz HO247) (Kd.R_base ho8) hb)
     have n1_ := qM (Kd.R_lower (Kd.R_new' ho8 (Kd.R_lt (qz HO247))) (below_size (yb HB)))
     have n2_ := qM (blk_below (bz BK241) hb)
     have n3_ := qM (below_step (yb HB) hb)
     clear HO247 BK241 HB
     revert n0_ n1_ n2_ n3_
     intro HO247 HO244 BK241 HB
     clear hb ho8
     obtain ⟨Ao9, co9, eo9⟩ := Kd.R_slice HO247.out
     (first | subst eo9 | (injection eo9 with f1_ f2_ f3_; have f4_ := f1_.symm; have f5_ := f3_.symm; clear f1_ f2_ f3_; subst f4_; subst f5_))
     obtain ⟨Ao10, co10, eo10⟩ := Kd.R_slice HO244.out
     (first | subst eo10 | (injection eo10 with f1_ f2_ f3_; have f4_ := f1_.symm; have f5_ := f3_.symm; clear f1_ f2_ f3_; subst f4_; subst f5_))
     refine hK.out _ _ trivial (fun hHeld => ?_)
     clear hK K
     refine norm_ (a' := ?_) ?_ ?_
     rotate_left
     ·show Act.put _ (some 1) _ = _
      simp only [Act.put, List.setIfInBounds_toArray, List.set_cons_zero, List.set_cons_succ, i64_w, i32_w]
      rfl
     exact norm_ (by simp only [putAll, Act.put, List.setIfInBounds_toArray, List.set_cons_zero, List.set_cons_succ]) (hCont (.slice Ao10 y242.length co10, .slice Ao9 y245.length co9) _ ⟨(by (with_reducible repeat (first | apply qA | apply qN | apply qD)); exact Kd.R_mono HO244.out (fun _ hk => hk.2)), (by (with_reducible repeat (first | apply qA | apply qN | apply qD)); exact Kd.R_mono HO247.out (fun _ hk => hk.2)), (bz BK241), (yb HB)⟩)
   rintro ⟨v243, v246⟩ w11 ⟨h0_, h1_, h2_, h3_⟩
   have n0_ : Aside0 (Kd.R (Kd.int .i64) 3 w11 w.heap.size (fun k_ => some k_ ≠ (v246 : Value).ownBlock) v243 y242) := ⟨h0_⟩
   have n1_ : Aside0 (Kd.R (Kd.int .i64) 3 w11 w.heap.size (fun k_ => some k_ ≠ (v243 : Value).ownBlock) v246 y245) := ⟨h1_⟩
   have n2_ : Aside0 (w11.heap[gb241]? = some (.cells #[.int .i64 0, .slice none 0 0, .slice none 0 0, .int .i64 0] 30 (0, 0))) := ⟨h2_⟩
   have n3_ : Aside0 (Below w.heap.size w w11) := ⟨h3_⟩
   clear BK241 HB h0_ h1_ h2_ h3_
   revert n0_ n1_ n2_ n3_
   intro HO244 HO247 BK241 HB
   have hHeld := trivial
   obtain ⟨Ao12, co12, eo12⟩ := Kd.R_slice HO247.out
   (first | subst eo12 | (injection eo12 with f1_ f2_ f3_; have f4_ := f1_.symm; have f5_ := f3_.symm; clear f1_ f2_ f3_; subst f4_; subst f5_))
   obtain ⟨Ao13, co13, eo13⟩ := Kd.R_slice HO244.out
   (first | subst eo13 | (injection eo13 with f1_ f2_ f3_; have f4_ := f1_.symm; have f5_ := f3_.symm; clear f1_ f2_ f3_; subst f4_; subst f5_))
   refine norm_ (a' := ?_) ?_ ?_
   rotate_left
   ·simp only [putAll, Act.put, List.setIfInBounds_toArray, List.set_cons_zero, List.set_cons_succ]
    rfl
   refine pure_ (i := 2) (N := some 3) (v := ?_) (a' := ?_) #[true, true, true, false] rfl rfl (by kernel_rfl) (fun _ _ _ h => h) (Or.inl ⟨by rfl, ?_⟩) ?_ ?_
   rotate_left
   ·intro w'
    go_simp
    with_reducible rfl
   rotate_left
   ·simp only [Act.put, List.setIfInBounds_toArray, List.set_cons_zero, List.set_cons_succ, i64_w, i32_w]
    rfl
   refine one_ (i := 3) (N := none) #[true, true, true, true] rfl rfl (by kernel_rfl) (by decide) (fun K hK => ?_)
   have hs14 : w11.cell? ⟨gb241, 0, none⟩ = some (.int .i64 0) := (zC BK241.out 0).trans rfl
   have hfs14 := zF BK241.out 0
   have hs15 : w11.cell? ⟨gb241, 1, none⟩ = some (.slice none 0 0) := (zC BK241.out 1).trans rfl
   have hfs15 := zF BK241.out 1
   have hs16 : w11.cell? ⟨gb241, 2, none⟩ = some (.slice none 0 0) := (zC BK241.out 2).trans rfl
   have hfs16 := zF BK241.out 2
   have hs17 : w11.cell? ⟨gb241, 3, none⟩ = some (.int .i64 0) := (zC BK241.out 3).trans rfl
   have hfs17 := zF BK241.out 3
   refine skip_ (w1 := ?_) (by rfl) rfl ?_ ?_
   rotate_left
   ·go_simp
    rfl
   refine hK.out _ _ trivial (fun hHeld => ?_)
   clear hK K
   refine done_ (by kernel_rfl) ?_
   try go_wp2
   refine bodyPost_ret (results_cell_row rfl _ _ gb241 30 #[.int .i64 0, .slice Ao13 y242.length co13, .slice Ao12 y245.length co12, .int .i64 0] (0, 0) _ rfl (by (with_reducible repeat (first | refine zN ?_ _ | refine zD ?_ | refine zA ?_ _)); refine blk_put (cs := #[.int .i64 0, .slice Ao13 y242.length co13, .slice Ao12 y245.length co12, .int .i64 0]) ?_ 3 _ rfl; (with_reducible repeat (first | refine zN ?_ _ | refine zD ?_ | refine zA ?_ _)); refine blk_put (cs := #[.int .i64 0, .slice Ao13 y242.length co13, .slice none 0 0, .int .i64 0]) ?_ 2 _ rfl; (with_reducible repeat (first | refine zN ?_ _ | refine zD ?_ | refine zA ?_ _)); refine blk_put (cs := #[.int .i64 0, .slice none 0 0, .slice none 0 0, .int .i64 0]) ?_ 1 _ rfl; (with_reducible repeat (first | refine zN ?_ _ | refine zD ?_ | refine zA ?_ _)); refine blk_put (cs := #[.int .i64 0, .slice none 0 0, .slice none 0 0, .int .i64 0]) ?_ 0 _ rfl; (with_reducible repeat (first | refine zN ?_ _ | refine zD ?_ | refine zA ?_ _)); exact BK241.out) Try.underlying30 rfl (by kernel_rfl)) rfl ?_
   exact ⟨_, _, by first | rfl | (simp [errW_none, errW_some] <;> rfl) | (simp [*, errW_none, errW_some] <;> rfl), by (with_reducible repeat (first | apply qA | apply qN | apply qD)); exact Kd.R_mono (qF (p := ⟨gb241, 3, none⟩) (qF (p := ⟨gb241, 2, none⟩) (qF (p := ⟨gb241, 1, none⟩) (qF (p := ⟨gb241, 0, none⟩) (Kd.R_types HO244.out BK241.out (by decide)) (fun _ hk => hk.2) (.int .i64 0)) (fun _ hk => hk.2) (.slice Ao13 y242.length co13)) (fun _ hk => hk.2) (.slice Ao12 y245.length co12)) (fun _ hk => hk.2) (.int .i64 0)) (fun _ hk => hk.1), by (with_reducible repeat (first | apply qA | apply qN | apply qD)); exact Kd.R_mono (qF (p := ⟨gb241, 3, none⟩) (qF (p := ⟨gb241, 2, none⟩) (qF (p := ⟨gb241, 1, none⟩) (qF (p := ⟨gb241, 0, none⟩) (Kd.R_types HO247.out BK241.out (by decide)) (fun _ hk => hk.2) (.int .i64 0)) (fun _ hk => hk.2) (.slice Ao13 y242.length co13)) (fun _ hk => hk.2) (.slice Ao12 y245.length co12)) (fun _ hk => hk.2) (.int .i64 0)) (fun _ hk => hk.1), by repeat (first | (with_reducible first | exact HB.out | apply yA | apply yN | apply yD | refine yS ?_ GE241.out) | exact HB.out)⟩
  ·rw [if_neg c2] at H
   exact absurd H (by simp)
 ·rw [if_neg c1] at H
  exact absurd H (by simp)

end Go.Proofs.Ytcnipdbommmkmaa.PVg
