/- Functions that a law reaches, each with the walk that shows what its call answers; laid by a program of this session. -/
import Derived.Test.YtcnipdbommmkmaaPFnCelInputBx0
import Derived.Test.YtcnipdbommmkmaaPFnCelInputBx1
import Derived.Test.YtcnipdbommmkmaaPFnCelInputBx6
namespace Go.Proofs.Ytcnipdbommmkmaa.PFnCelInputB
open Go.RowKit Go.Proofs.YtcnipdbommmkmaaW.PrintWords Go.Proofs.YtcnipdbommmkmaaW.PrintLast Go.Proofs.YtcnipdbommmkmaaW.PrintMore
attribute [local go_sem] max2_int min2_int max_two min_two max_three min_three max_four min_four   -- for this text's walks alone
set_option linter.unusedVariables false
set_option linter.unusedSimpArgs false

open Go.Proofs.YtcnipdbommmkmaaAl
/-! ### spec_CelInput: function 40 -/
def spec_CelInput.j0 : Nat → Int → Bool → Int → List Int → List Int → Int → List Int → Option (Int × List Int × List Int × Int × List Int × Bool)
  | 0, _, _, _, _, _, _, _ => none
  | k + 1, x1, x14, x329000, x329001, x329002, x329003, x329004 => if x14 = true then (some (0, ([] : List Int), ([] : List Int), 0, ([] : List Int), false)) else ((spec_l14Copy.f x329000 x329001 x329002 x329003 x329004).bind fun bt332 => (if (bt332.2.2.2.2.length : Int) = 6 then (some (bt332.1, bt332.2.1, bt332.2.2.1, bt332.2.2.2.1, bt332.2.2.2.2, false)) else (if bt332.2.2.2.2.length < 140737488355328 then (some (bt332.1, bt332.2.1, bt332.2.2.1, bt332.2.2.2.1, (bt332.2.2.2.2 ++ [(x1) % 256]), true)) else (none))))
def spec_CelInput.f (k : Nat) (a0_0 : Int) (l0_1 : List Int) (l0_2 : List Int) (a0_3 : Int) (l0_4 : List Int) (a1 : Int) : Option (Int × List Int × List Int × Int × List Int × Bool) := (spec_CelOk.f k a0_0 l0_1 l0_2 a0_3 l0_4).bind fun t330 => (if t330 = true then ((spec_l1In.f a1 0 255).bind fun t331 => (spec_CelInput.j0 k a1 (!t331) a0_0 l0_1 l0_2 a0_3 l0_4)) else (spec_CelInput.j0 k a1 true a0_0 l0_1 l0_2 a0_3 l0_4))
theorem spec_CelInput.mono_l : ∀ k, (∀ y0 y1 y2 y3 y4 y5 y6, LeO (spec_CelInput.j0 k y0 y1 y2 y3 y4 y5 y6) (spec_CelInput.j0 (k + 1) y0 y1 y2 y3 y4 y5 y6))
  | 0 => fun _ _ _ _ _ _ _ r h => by simp [spec_CelInput.j0] at h
  | k + 1 => by
    have ih0 := spec_CelInput.mono_l k
    · intro y0 y1 y2 y3 y4 y5 y6
      unfold spec_CelInput.j0
      repeat' first
      | (with_reducible exact ih0 _ _ _ _ _ _ _)
      | (with_reducible exact spec_CelOk.mono _ _ _ _ _ _)
      | (with_reducible exact LeO.refl _)
      | (with_reducible exact LeO.none _)
      | (with_reducible refine LeO.ite ?_ ?_)
      | (with_reducible refine LeO.bind ?_ (fun _ => ?_))
      | exact ih0 _ _ _ _ _ _ _
      | exact spec_CelOk.mono _ _ _ _ _ _
      | exact LeO.none _
      | refine LeO.ite ?_ ?_
      | refine LeO.bind ?_ (fun _ => ?_)
theorem spec_CelInput.mono : ∀ a0 a1 a2 a3 a4 a5 k, LeO (spec_CelInput.f k a0 a1 a2 a3 a4 a5) (spec_CelInput.f (k + 1) a0 a1 a2 a3 a4 a5) := by
  intro a0 a1 a2 a3 a4 a5 k
  have ih0 := spec_CelInput.mono_l k
  unfold spec_CelInput.f
  repeat' first
      | (with_reducible exact ih0 _ _ _ _ _ _ _)
      | (with_reducible exact spec_CelOk.mono _ _ _ _ _ _)
      | (with_reducible exact LeO.refl _)
      | (with_reducible exact LeO.none _)
      | (with_reducible refine LeO.ite ?_ ?_)
      | (with_reducible refine LeO.bind ?_ (fun _ => ?_))
      | exact ih0 _ _ _ _ _ _ _
      | exact spec_CelOk.mono _ _ _ _ _ _
      | exact LeO.none _
      | refine LeO.ite ?_ ?_
      | refine LeO.bind ?_ (fun _ => ?_)
set_option maxHeartbeats 8000000 in
set_option maxRecDepth 100000 in
theorem spec_CelInput.calls (k : Nat) (a0_0 : Int) (A0_1 : Option Addr) (c0_1 : Nat) (l0_1 : List Int) (A0_2 : Option Addr) (c0_2 : Nat) (l0_2 : List Int) (a0_3 : Int) (A0_4 : Option Addr) (c0_4 : Nat) (l0_4 : List Int) (a1 : Int) (r1 : Int) (r2 : List Int) (r3 : List Int) (r4 : Int) (r5 : List Int) (r6 : Bool) (w : World) (hr0_1 : Kd.C (Kd.int .i64) w A0_1 l0_1.length l0_1) (hc0_1 : l0_1.length ≤ c0_1) (hr0_2 : Kd.C (Kd.int .i64) w A0_2 l0_2.length l0_2) (hc0_2 : l0_2.length ≤ c0_2) (hr0_4 : Kd.C (Kd.int .u8) w A0_4 l0_4.length l0_4) (hc0_4 : l0_4.length ≤ c0_4) (h : spec_CelInput.f k a0_0 l0_1 l0_2 a0_3 l0_4 a1 = some (r1, r2, r3, r4, r5, r6)) :
    Calls Try.prog 40 #[.agg #[.int .i64 a0_0, .slice A0_1 l0_1.length c0_1, .slice A0_2 l0_2.length c0_2, .int .i64 a0_3, .slice A0_4 l0_4.length c0_4], .int .i64 a1] w fun e w' => ∃ v1_ v2_ v4_ : Value, e = .returned (.tuple #[.agg #[.int .i64 r1, v1_, v2_, .int .i64 r4, v4_], .bool r6]) ∧ Kd.R (Kd.int .i64) 3 w' w.heap.size (fun k_ => some k_ ≠ (v2_ : Value).ownBlock) v1_ r2 ∧ Kd.R (Kd.int .i64) 3 w' w.heap.size (fun k_ => some k_ ≠ (v1_ : Value).ownBlock) v2_ r3 ∧ Kd.R (Kd.int .u8) 5 w' w.heap.size (fun _ => True) v4_ r5 ∧ Below w.heap.size w w' := by
  have hu48 := Try.underlying48
  have HR0_1 := qM hr0_1
  have HC0_1 := qM hc0_1
  clear hr0_1 hc0_1
  have HR0_2 := qM hr0_2
  have HC0_2 := qM hc0_2
  clear hr0_2 hc0_2
  have HR0_4 := qM hr0_4
  have HC0_4 := qM hc0_4
  clear hr0_4 hc0_4
  have HB := qM (Below.refl w.heap.size w)
  have H : ((spec_CelOk.f k a0_0 l0_1 l0_2 a0_3 l0_4).bind fun t330 => (if t330 = true then ((spec_l1In.f a1 0 255).bind fun t331 => (spec_CelInput.j0 k a1 (!t331) a0_0 l0_1 l0_2 a0_3 l0_4)) else (spec_CelInput.j0 k a1 true a0_0 l0_1 l0_2 a0_3 l0_4))) = some (r1, r2, r3, r4, r5, r6) := h
  clear h
  have HC3 := qM H
  clear H
  go_enter Try.func40, Try.ntmps40
  go_upto_region 1 with (first | ((with_reducible refine gate_dst (N := 2) rfl ?_); refine box_event ?hg (N := 2) ?hd (cs := #[.int .i64 a0_0, .slice A0_1 l0_1.length c0_1, .slice A0_2 l0_2.length c0_2, .int .i64 a0_3, .slice A0_4 l0_4.length c0_4]) (t := 48) ?hr ?_; (case hd => rfl); (case hg => rfl); (case hr => first | (go_simp; done) | (go_simp; rfl)); intro gb328 hg w4 hbox hb; have n0_ := qM (below_step (by repeat (first | (with_reducible first | exact HB.out | apply yA | apply yN | apply yD) | exact HB.out)) hb); have n1_ := qM (hbox); have n2_ := qM ((by rw [hg]; exact (below_size (by repeat (first | (with_reducible first | exact HB.out | apply yA | apply yN | apply yD) | exact HB.out))) : w.heap.size ≤ gb328)); have n3_ := qM ((by rw [hg]; exact (below_size (by repeat (first | (with_reducible first | exact HB.out | apply yA | apply yN | apply yD) | exact HB.out))) : w.heap.size ≤ gb328)); clear HB; have HB := n0_; have BK328 := n1_; have GW328 := n2_; have GE328 := n3_; clear n0_ n1_ n2_ n3_; clear hb hbox hg) | ((with_reducible refine gate_dst (N := 4) rfl ?_); refine box_event ?hg (N := 4) ?hd (cs := #[.int .i64 0, .slice none 0 0, .slice none 0 0, .int .i64 0, .slice none 0 0]) (t := 48) ?hr ?_; (case hd => rfl); (case hg => rfl); (case hr => first | (go_simp; done) | (go_simp; rfl)); intro gb329 hg w5 hbox hb; have n0_ := qM (blk_below (g := gb328) (o := .cells #[.int .i64 a0_0, .slice A0_1 l0_1.length c0_1, .slice A0_2 l0_2.length c0_2, .int .i64 a0_3, .slice A0_4 l0_4.length c0_4] 48 (0, 0)) (by (with_reducible repeat (first | refine zN ?_ _ | refine zD ?_ | refine zA ?_ _)); exact BK328.out) hb); have n1_ := qM (below_step (by repeat (first | (with_reducible first | exact HB.out | apply yA | apply yN | apply yD | refine yS ?_ GE328.out) | exact HB.out)) hb); have n2_ := qM (hbox); have n3_ := qM ((by rw [hg]; exact (below_size (by repeat (first | (with_reducible first | exact HB.out | apply yA | apply yN | apply yD | refine yS ?_ GE328.out) | exact HB.out))) : w.heap.size ≤ gb329)); have n4_ := qM ((by rw [hg]; exact (below_size (by repeat (first | (with_reducible first | exact HB.out | apply yA | apply yN | apply yD | refine yS ?_ GE328.out) | exact HB.out))) : w.heap.size ≤ gb329)); have n5_ := qM ((by rw [hg]; exact Nat.ne_of_lt (blk_lt (g := gb328) (o := .cells #[.int .i64 a0_0, .slice A0_1 l0_1.length c0_1, .slice A0_2 l0_2.length c0_2, .int .i64 a0_3, .slice A0_4 l0_4.length c0_4] 48 (0, 0)) (by (with_reducible repeat (first | refine zN ?_ _ | refine zD ?_ | refine zA ?_ _)); exact BK328.out)) : gb328 ≠ gb329)); have n6_ := qM ((by rw [hg]; exact Nat.ne_of_gt (blk_lt (g := gb328) (o := .cells #[.int .i64 a0_0, .slice A0_1 l0_1.length c0_1, .slice A0_2 l0_2.length c0_2, .int .i64 a0_3, .slice A0_4 l0_4.length c0_4] 48 (0, 0)) (by (with_reducible repeat (first | refine zN ?_ _ | refine zD ?_ | refine zA ?_ _)); exact BK328.out)) : gb329 ≠ gb328)); clear BK328; clear HB; have BK328 := n0_; have HB := n1_; have BK329 := n2_; have GW329 := n3_; have GE329 := n4_; have NB328_329 := n5_; have NB329_328 := n6_; clear n0_ n1_ n2_ n3_ n4_ n5_ n6_; clear hb hbox hg))
  (try simp only [Act.put, List.setIfInBounds_toArray, List.set_cons_zero, List.set_cons_succ])
  go_cut [14] (fun v14 wc => ∃ (kq : Nat) (x14_2 : Bool), v14 = .bool x14_2 ∧ Aside0 (spec_CelInput.j0 kq a1 x14_2 a0_0 l0_1 l0_2 a0_3 l0_4 = some (r1, r2, r3, r4, r5, r6)) ∧ Aside0 (kq ≤ k) ∧ Aside0 (wc.heap[gb328]? = some (.cells #[.int .i64 a0_0, (.slice A0_1 l0_1.length c0_1), (.slice A0_2 l0_2.length c0_2), .int .i64 a0_3, (.slice A0_4 l0_4.length c0_4)] 48 (0, 0))) ∧ Aside0 (wc.heap[gb329]? = some (.cells #[.int .i64 0, (.slice none 0 0), (.slice none 0 0), .int .i64 0, (.slice none 0 0)] 48 (0, 0))) ∧ Aside0 (Below w.heap.size w wc))
  case first =>
    have H := HC3.out
    clear HC3
    replace H := Option.bind_eq_some_iff.mp H
    obtain ⟨t330, A60, H⟩ := H
    replace H : (if t330 = true then ((spec_l1In.f a1 0 255).bind fun t331 => (spec_CelInput.j0 k a1 (!t331) a0_0 l0_1 l0_2 a0_3 l0_4)) else (spec_CelInput.j0 k a1 true a0_0 l0_1 l0_2 a0_3 l0_4)) = some (r1, r2, r3, r4, r5, r6) := H
    have A6 := qM A60
    clear A60
    by_cases c7 : t330 = true
    · subst c7
      have H1 : ((spec_l1In.f a1 0 255).bind fun t331 => (spec_CelInput.j0 k a1 (!t331) a0_0 l0_1 l0_2 a0_3 l0_4)) = some (r1, r2, r3, r4, r5, r6) := by rw [if_pos rfl] at H; exact H
      clear H
      have H := H1
      clear H1
      replace H := Option.bind_eq_some_iff.mp H
      obtain ⟨t331, A80, H⟩ := H
      replace H : (spec_CelInput.j0 k a1 (!t331) a0_0 l0_1 l0_2 a0_3 l0_4) = some (r1, r2, r3, r4, r5, r6) := H
      have A8 := qM A80
      clear A80
      have H' := qM H
      clear H
      have hnb9 := NB328_329.out
      have hnc9 := NB329_328.out
      have hcz10_0 : w5.cell? ⟨gb328, 0, none⟩ = some (.int .i64 a0_0) := (zC BK328.out 0).trans rfl
      have hcz10_1 : w5.cell? ⟨gb328, 1, none⟩ = some (.slice A0_1 l0_1.length c0_1) := (zC BK328.out 1).trans rfl
      have hcz10_2 : w5.cell? ⟨gb328, 2, none⟩ = some (.slice A0_2 l0_2.length c0_2) := (zC BK328.out 2).trans rfl
      have hcz10_3 : w5.cell? ⟨gb328, 3, none⟩ = some (.int .i64 a0_3) := (zC BK328.out 3).trans rfl
      have hcz10_4 : w5.cell? ⟨gb328, 4, none⟩ = some (.slice A0_4 l0_4.length c0_4) := (zC BK328.out 4).trans rfl
      have hfz10_0 := zF BK328.out 0
      have hfz10_1 := zF BK328.out 1
      have hfz10_2 := zF BK328.out 2
      have hfz10_3 := zF BK328.out 3
      have hfz10_4 := zF BK328.out 4
      go_wp2_with (first | ((with_reducible refine gate_callee (f := 35) rfl ?_); refine goesL_ (some 8) rfl rfl Try.func35 (by kernel_rfl) rfl #[.agg #[.int .i64 a0_0, .slice A0_1 l0_1.length c0_1, .slice A0_2 l0_2.length c0_2, .int .i64 a0_3, .slice A0_4 l0_4.length c0_4]] rfl (by (try simp only [List.map_toArray, List.map_cons, List.map_nil]); first | done | rfl | (simp only [List.length_drop, List.length_take]; rfl)) ?_; (with_reducible refine (spec_CelOk.calls k a0_0 _ _ l0_1 _ _ l0_2 a0_3 _ _ l0_4 true _ ?side1 ?side2 ?side3 ?side4 ?side5 ?side6 A6.out).mono ?_); (case side1 => repeat (first | exact (Kd.C_below HR0_1.out HB.out) | (with_reducible refine Kd.C_alloc ?_ _) | (with_reducible refine Kd.C_drewN ?_ _) | (with_reducible refine Kd.C_drew ?_))); (case side2 => exact HC0_1.out); (case side3 => repeat (first | exact (Kd.C_below HR0_2.out HB.out) | (with_reducible refine Kd.C_alloc ?_ _) | (with_reducible refine Kd.C_drewN ?_ _) | (with_reducible refine Kd.C_drew ?_))); (case side4 => exact HC0_2.out); (case side5 => repeat (first | exact (Kd.C_below HR0_4.out HB.out) | (with_reducible refine Kd.C_alloc ?_ _) | (with_reducible refine Kd.C_drewN ?_ _) | (with_reducible refine Kd.C_drew ?_))); (case side6 => exact HC0_4.out); rintro e w11 ⟨rfl, hb⟩; refine ⟨_, rfl, ?_⟩; have n0_ := qM (blk_below (g := gb328) (o := .cells #[.int .i64 a0_0, .slice A0_1 l0_1.length c0_1, .slice A0_2 l0_2.length c0_2, .int .i64 a0_3, .slice A0_4 l0_4.length c0_4] 48 (0, 0)) (by (with_reducible repeat (first | refine zN ?_ _ | refine zD ?_ | refine zA ?_ _)); exact BK328.out) hb); have n1_ := qM (blk_below (g := gb329) (o := .cells #[.int .i64 0, .slice none 0 0, .slice none 0 0, .int .i64 0, .slice none 0 0] 48 (0, 0)) (by (with_reducible repeat (first | refine zN ?_ _ | refine zD ?_ | refine zA ?_ _)); exact BK329.out) hb); have n2_ := qM (below_step (by repeat (first | (with_reducible first | exact HB.out | apply yA | apply yN | apply yD | refine yS ?_ GE328.out | refine yS ?_ GE329.out) | exact HB.out)) hb); clear BK328; clear BK329; clear HB; have BK328 := n0_; have BK329 := n1_; have HB := n2_; clear n0_ n1_ n2_; (try clear hb); (try clear hb2); (try clear hk); (try clear hi)) | (go_at_call 67; (with_reducible refine (spec_l1In.calls a1 0 255 t331 _ A8.out).mono ?_); rintro e w' ⟨rfl, ⟨nd, rfl⟩⟩))
      go_meet
      case rel => exact ⟨_, (!t331), (by first | rfl | (simp; done) | (simp [*]; done)), H', ⟨by first | omega | exact Nat.le_refl _⟩, ⟨by (with_reducible repeat (first | refine zN ?_ _ | refine zD ?_ | refine zA ?_ _)); exact BK328.out⟩, ⟨by (with_reducible repeat (first | refine zN ?_ _ | refine zD ?_ | refine zA ?_ _)); exact BK329.out⟩, ⟨by repeat (first | (with_reducible first | exact HB.out | apply yA | apply yN | apply yD | refine yS ?_ GE328.out | refine yS ?_ GE329.out) | exact HB.out)⟩⟩
    · replace c7 := Bool.eq_false_iff.mpr c7
      subst c7
      have H1 : (spec_CelInput.j0 k a1 true a0_0 l0_1 l0_2 a0_3 l0_4) = some (r1, r2, r3, r4, r5, r6) := by rw [if_neg (show ¬ (false = true) by decide)] at H; exact H
      clear H
      have H := H1
      clear H1
      have H' := qM H
      clear H
      have hnb12 := NB328_329.out
      have hnc12 := NB329_328.out
      have hcz13_0 : w5.cell? ⟨gb328, 0, none⟩ = some (.int .i64 a0_0) := (zC BK328.out 0).trans rfl
      have hcz13_1 : w5.cell? ⟨gb328, 1, none⟩ = some (.slice A0_1 l0_1.length c0_1) := (zC BK328.out 1).trans rfl
      have hcz13_2 : w5.cell? ⟨gb328, 2, none⟩ = some (.slice A0_2 l0_2.length c0_2) := (zC BK328.out 2).trans rfl
      have hcz13_3 : w5.cell? ⟨gb328, 3, none⟩ = some (.int .i64 a0_3) := (zC BK328.out 3).trans rfl
      have hcz13_4 : w5.cell? ⟨gb328, 4, none⟩ = some (.slice A0_4 l0_4.length c0_4) := (zC BK328.out 4).trans rfl
      have hfz13_0 := zF BK328.out 0
      have hfz13_1 := zF BK328.out 1
      have hfz13_2 := zF BK328.out 2
      have hfz13_3 := zF BK328.out 3
      have hfz13_4 := zF BK328.out 4
      go_wp2_with (first | ((with_reducible refine gate_callee (f := 35) rfl ?_); refine goesL_ (some 8) rfl rfl Try.func35 (by kernel_rfl) rfl #[.agg #[.int .i64 a0_0, .slice A0_1 l0_1.length c0_1, .slice A0_2 l0_2.length c0_2, .int .i64 a0_3, .slice A0_4 l0_4.length c0_4]] rfl (by (try simp only [List.map_toArray, List.map_cons, List.map_nil]); first | done | rfl | (simp only [List.length_drop, List.length_take]; rfl)) ?_; (with_reducible refine (spec_CelOk.calls k a0_0 _ _ l0_1 _ _ l0_2 a0_3 _ _ l0_4 false _ ?side1 ?side2 ?side3 ?side4 ?side5 ?side6 A6.out).mono ?_); (case side1 => repeat (first | exact (Kd.C_below HR0_1.out HB.out) | (with_reducible refine Kd.C_alloc ?_ _) | (with_reducible refine Kd.C_drewN ?_ _) | (with_reducible refine Kd.C_drew ?_))); (case side2 => exact HC0_1.out); (case side3 => repeat (first | exact (Kd.C_below HR0_2.out HB.out) | (with_reducible refine Kd.C_alloc ?_ _) | (with_reducible refine Kd.C_drewN ?_ _) | (with_reducible refine Kd.C_drew ?_))); (case side4 => exact HC0_2.out); (case side5 => repeat (first | exact (Kd.C_below HR0_4.out HB.out) | (with_reducible refine Kd.C_alloc ?_ _) | (with_reducible refine Kd.C_drewN ?_ _) | (with_reducible refine Kd.C_drew ?_))); (case side6 => exact HC0_4.out); rintro e w14 ⟨rfl, hb⟩; refine ⟨_, rfl, ?_⟩; have n0_ := qM (blk_below (g := gb328) (o := .cells #[.int .i64 a0_0, .slice A0_1 l0_1.length c0_1, .slice A0_2 l0_2.length c0_2, .int .i64 a0_3, .slice A0_4 l0_4.length c0_4] 48 (0, 0)) (by (with_reducible repeat (first | refine zN ?_ _ | refine zD ?_ | refine zA ?_ _)); exact BK328.out) hb); have n1_ := qM (blk_below (g := gb329) (o := .cells #[.int .i64 0, .slice none 0 0, .slice none 0 0, .int .i64 0, .slice none 0 0] 48 (0, 0)) (by (with_reducible repeat (first | refine zN ?_ _ | refine zD ?_ | refine zA ?_ _)); exact BK329.out) hb); have n2_ := qM (below_step (by repeat (first | (with_reducible first | exact HB.out | apply yA | apply yN | apply yD | refine yS ?_ GE328.out | refine yS ?_ GE329.out) | exact HB.out)) hb); clear BK328; clear BK329; clear HB; have BK328 := n0_; have BK329 := n1_; have HB := n2_; clear n0_ n1_ n2_; (try clear hb); (try clear hb2); (try clear hk); (try clear hi)))
      go_meet
      case rel => exact ⟨_, (true), (by first | rfl | (simp; done) | (simp [*]; done)), H', ⟨by first | omega | exact Nat.le_refl _⟩, ⟨by (with_reducible repeat (first | refine zN ?_ _ | refine zD ?_ | refine zA ?_ _)); exact BK328.out⟩, ⟨by (with_reducible repeat (first | refine zN ?_ _ | refine zD ?_ | refine zA ?_ _)); exact BK329.out⟩, ⟨by repeat (first | (with_reducible first | exact HB.out | apply yA | apply yN | apply yD | refine yS ?_ GE328.out | refine yS ?_ GE329.out) | exact HB.out)⟩⟩
  case rest =>
    clear HC3
    try clear c1
    try clear p2
    try clear c3
    try clear c4
    try clear c7
    try clear c9
    try clear c12
    try clear hcz10_0
    try clear hcz10_1
    try clear hcz10_2
    try clear hcz10_3
    try clear hcz10_4
    try clear hcz13_0
    try clear hcz13_1
    try clear hcz13_2
    try clear hcz13_3
    try clear hcz13_4
    try clear hfz10_0
    try clear hfz10_1
    try clear hfz10_2
    try clear hfz10_3
    try clear hfz10_4
    try clear hfz13_0
    try clear hfz13_1
    try clear hfz13_2
    try clear hfz13_3
    try clear hfz13_4
    obtain ⟨kq, x14_2, rfl, HA, HJ2, BK328, BK329, HB⟩ := hcut
    cases kq with
    | zero => exact absurd HA.out (by simp [spec_CelInput.j0])
    | succ kj2 =>
      have H := HA.out
      clear HA
      simp only [spec_CelInput.j0] at H
      by_cases c15 : x14_2 = true
      · subst c15
        have H1 : (some (0, ([] : List Int), ([] : List Int), 0, ([] : List Int), false)) = some (r1, r2, r3, r4, r5, r6) := by rw [if_pos rfl] at H; exact H
        clear H
        have H := H1
        clear H1
        simp only [Option.some.injEq, Prod.mk.injEq] at H
        obtain ⟨rfl, rfl, rfl, rfl, rfl, rfl⟩ := H
        have hnb16 := NB329_328.out
        have hnc16 := NB328_329.out
        have hcz17_0 : wc.cell? ⟨gb329, 0, none⟩ = some (.int .i64 0) := (zC BK329.out 0).trans rfl
        have hcz17_1 : wc.cell? ⟨gb329, 1, none⟩ = some (.slice none 0 0) := (zC BK329.out 1).trans rfl
        have hcz17_2 : wc.cell? ⟨gb329, 2, none⟩ = some (.slice none 0 0) := (zC BK329.out 2).trans rfl
        have hcz17_3 : wc.cell? ⟨gb329, 3, none⟩ = some (.int .i64 0) := (zC BK329.out 3).trans rfl
        have hcz17_4 : wc.cell? ⟨gb329, 4, none⟩ = some (.slice none 0 0) := (zC BK329.out 4).trans rfl
        have hfz17_0 := zF BK329.out 0
        have hfz17_1 := zF BK329.out 1
        have hfz17_2 := zF BK329.out 2
        have hfz17_3 := zF BK329.out 3
        have hfz17_4 := zF BK329.out 4
        go_wp2
        refine bodyPost_ret (results_ct rfl _ _ gb329 48 #[.int .i64 0, .slice none 0 0, .slice none 0 0, .int .i64 0, .slice none 0 0] (0, 0) _ rfl (by (with_reducible repeat (first | refine zN ?_ _ | refine zD ?_ | refine zA ?_ _)); refine blk_put (cs := #[.int .i64 0, .slice none 0 0, .slice none 0 0, .int .i64 0, .slice none 0 0]) ?_ 4 _ rfl; (with_reducible repeat (first | refine zN ?_ _ | refine zD ?_ | refine zA ?_ _)); refine blk_put (cs := #[.int .i64 0, .slice none 0 0, .slice none 0 0, .int .i64 0, .slice none 0 0]) ?_ 3 _ rfl; (with_reducible repeat (first | refine zN ?_ _ | refine zD ?_ | refine zA ?_ _)); refine blk_put (cs := #[.int .i64 0, .slice none 0 0, .slice none 0 0, .int .i64 0, .slice none 0 0]) ?_ 2 _ rfl; (with_reducible repeat (first | refine zN ?_ _ | refine zD ?_ | refine zA ?_ _)); refine blk_put (cs := #[.int .i64 0, .slice none 0 0, .slice none 0 0, .int .i64 0, .slice none 0 0]) ?_ 1 _ rfl; (with_reducible repeat (first | refine zN ?_ _ | refine zD ?_ | refine zA ?_ _)); refine blk_put (cs := #[.int .i64 0, .slice none 0 0, .slice none 0 0, .int .i64 0, .slice none 0 0]) ?_ 0 _ rfl; (with_reducible repeat (first | refine zN ?_ _ | refine zD ?_ | refine zA ?_ _)); exact BK329.out) Try.underlying48 rfl (by kernel_rfl)) rfl ?_
        exact ⟨_, _, _, by first | rfl | (simp [errW_none, errW_some] <;> rfl) | (simp [*, errW_none, errW_some] <;> rfl), by first | exact Kd.R_nil _ _ _ _ _ | exact Kd.N_nil _ _ _ _ _ | exact Kd.V_nil _ _ _ _ _ | exact Kd.Q_nil _ _ _ _ _ | exact Kd.S_nil _ _ _ _ _, by first | exact Kd.R_nil _ _ _ _ _ | exact Kd.N_nil _ _ _ _ _ | exact Kd.V_nil _ _ _ _ _ | exact Kd.Q_nil _ _ _ _ _ | exact Kd.S_nil _ _ _ _ _, by first | exact Kd.R_nil _ _ _ _ _ | exact Kd.N_nil _ _ _ _ _ | exact Kd.V_nil _ _ _ _ _ | exact Kd.Q_nil _ _ _ _ _ | exact Kd.S_nil _ _ _ _ _, by repeat (first | (with_reducible first | exact HB.out | apply yA | apply yN | apply yD | refine yS ?_ GE328.out | refine yS ?_ GE329.out) | exact HB.out)⟩
      · replace c15 := Bool.eq_false_iff.mpr c15
        subst c15
        have H1 : ((spec_l14Copy.f a0_0 l0_1 l0_2 a0_3 l0_4).bind fun bt332 => (if (bt332.2.2.2.2.length : Int) = 6 then (some (bt332.1, bt332.2.1, bt332.2.2.1, bt332.2.2.2.1, bt332.2.2.2.2, false)) else (if bt332.2.2.2.2.length < 140737488355328 then (some (bt332.1, bt332.2.1, bt332.2.2.1, bt332.2.2.2.1, (bt332.2.2.2.2 ++ [(a1) % 256]), true)) else (none)))) = some (r1, r2, r3, r4, r5, r6) := by rw [if_neg (show ¬ (false = true) by decide)] at H; exact H
        clear H
        have H := H1
        clear H1
        replace H := Option.bind_eq_some_iff.mp H
        obtain ⟨⟨t332, t333, t336, t339, t340⟩, A180, H⟩ := H
        replace H : (if (t340.length : Int) = 6 then (some (t332, t333, t336, t339, t340, false)) else (if t340.length < 140737488355328 then (some (t332, t333, t336, t339, (t340 ++ [(a1) % 256]), true)) else (none))) = some (r1, r2, r3, r4, r5, r6) := H
        have A18 := qM A180
        clear A180
        by_cases c19 : (t340.length : Int) = 6
        · rw [if_pos c19] at H
          have c19b0 : ((t340.length : Int) == 6) = true := beq_iff_eq.mpr c19
          have c19b1 : ((t340.length : Int) != 6) = false := bne_eq_false_iff_eq.mpr c19
          clear c19
          simp only [Option.some.injEq, Prod.mk.injEq] at H
          obtain ⟨rfl, rfl, rfl, rfl, rfl, rfl⟩ := H
          have hnb20 := NB328_329.out
          have hnc20 := NB329_328.out
          have hcz21_0 : wc.cell? ⟨gb328, 0, none⟩ = some (.int .i64 a0_0) := (zC BK328.out 0).trans rfl
          have hcz21_1 : wc.cell? ⟨gb328, 1, none⟩ = some (.slice A0_1 l0_1.length c0_1) := (zC BK328.out 1).trans rfl
          have hcz21_2 : wc.cell? ⟨gb328, 2, none⟩ = some (.slice A0_2 l0_2.length c0_2) := (zC BK328.out 2).trans rfl
          have hcz21_3 : wc.cell? ⟨gb328, 3, none⟩ = some (.int .i64 a0_3) := (zC BK328.out 3).trans rfl
          have hcz21_4 : wc.cell? ⟨gb328, 4, none⟩ = some (.slice A0_4 l0_4.length c0_4) := (zC BK328.out 4).trans rfl
          have hfz21_0 := zF BK328.out 0
          have hfz21_1 := zF BK328.out 1
          have hfz21_2 := zF BK328.out 2
          have hfz21_3 := zF BK328.out 3
          have hfz21_4 := zF BK328.out 4
          go_wp2_with (first | ((with_reducible refine gate_callee (f := 75) rfl ?_); refine goesL_ (some 17) rfl rfl Try.func75 (by kernel_rfl) rfl #[.agg #[.int .i64 a0_0, .slice A0_1 l0_1.length c0_1, .slice A0_2 l0_2.length c0_2, .int .i64 a0_3, .slice A0_4 l0_4.length c0_4]] rfl (by (try simp only [List.map_toArray, List.map_cons, List.map_nil]); first | done | rfl | (simp only [List.length_drop, List.length_take]; rfl)) ?_; (with_reducible refine (spec_l14Copy.calls a0_0 _ _ l0_1 _ _ l0_2 a0_3 _ _ l0_4 t332 t333 t336 t339 t340 _ ?side1 ?side2 ?side3 ?side4 ?side5 ?side6 A18.out).mono ?_); (case side1 => repeat (first | exact (Kd.C_below HR0_1.out HB.out) | (with_reducible refine Kd.C_alloc ?_ _) | (with_reducible refine Kd.C_drewN ?_ _) | (with_reducible refine Kd.C_drew ?_))); (case side2 => exact HC0_1.out); (case side3 => repeat (first | exact (Kd.C_below HR0_2.out HB.out) | (with_reducible refine Kd.C_alloc ?_ _) | (with_reducible refine Kd.C_drewN ?_ _) | (with_reducible refine Kd.C_drew ?_))); (case side4 => exact HC0_2.out); (case side5 => repeat (first | exact (Kd.C_below HR0_4.out HB.out) | (with_reducible refine Kd.C_alloc ?_ _) | (with_reducible refine Kd.C_drewN ?_ _) | (with_reducible refine Kd.C_drew ?_))); (case side6 => exact HC0_4.out); rintro e w22 ⟨v334, v337, v341, rfl, ho0, ho1, ho2, hb⟩; refine ⟨_, rfl, ?_⟩; have n0_ := qM (Kd.R_lower ho0 (below_size (by repeat (first | (with_reducible first | exact HB.out | apply yA | apply yN | apply yD | refine yS ?_ GE328.out | refine yS ?_ GE329.out) | exact HB.out)))); have n1_ := qM (Kd.R_lower ho1 (below_size (by repeat (first | (with_reducible first | exact HB.out | apply yA | apply yN | apply yD | refine yS ?_ GE328.out | refine yS ?_ GE329.out) | exact HB.out)))); have n2_ := qM (Kd.R_lower ho2 (below_size (by repeat (first | (with_reducible first | exact HB.out | apply yA | apply yN | apply yD | refine yS ?_ GE328.out | refine yS ?_ GE329.out) | exact HB.out)))); have n3_ := qM (blk_below (g := gb328) (o := .cells #[.int .i64 a0_0, .slice A0_1 l0_1.length c0_1, .slice A0_2 l0_2.length c0_2, .int .i64 a0_3, .slice A0_4 l0_4.length c0_4] 48 (0, 0)) (by (with_reducible repeat (first | refine zN ?_ _ | refine zD ?_ | refine zA ?_ _)); exact BK328.out) hb); have n4_ := qM (blk_below (g := gb329) (o := .cells #[.int .i64 0, .slice none 0 0, .slice none 0 0, .int .i64 0, .slice none 0 0] 48 (0, 0)) (by (with_reducible repeat (first | refine zN ?_ _ | refine zD ?_ | refine zA ?_ _)); exact BK329.out) hb); have n5_ := qM (below_step (by repeat (first | (with_reducible first | exact HB.out | apply yA | apply yN | apply yD | refine yS ?_ GE328.out | refine yS ?_ GE329.out) | exact HB.out)) hb); clear BK328; clear BK329; clear HB; have HO335 := n0_; have HO338 := n1_; have HO342 := n2_; have BK328 := n3_; have BK329 := n4_; have HB := n5_; clear n0_ n1_ n2_ n3_ n4_ n5_; (try clear hb); (try clear hb2); (try clear hk); (try clear hi); (try clear ho0); (try clear ho1); (try clear ho2)) | ((with_reducible refine gate_dst (N := 6) rfl ?_); refine box_event ?hg (N := 6) ?hd (cs := #[.int .i64 0, .slice none 0 0, .slice none 0 0, .int .i64 0, .slice none 0 0]) (t := 48) ?hr ?_; (case hd => rfl); (case hg => rfl); (case hr => first | (go_simp; done) | (go_simp; rfl)); intro gb343 hg w23 hbox hb; have n0_ := qM (Kd.R_below (by (with_reducible repeat (first | apply qA | apply qN | apply qD)); exact HO335.out) hb); have n1_ := qM (Kd.R_below (by (with_reducible repeat (first | apply qA | apply qN | apply qD)); exact HO338.out) hb); have n2_ := qM (Kd.R_below (by (with_reducible repeat (first | apply qA | apply qN | apply qD)); exact HO342.out) hb); have n3_ := qM (blk_below (g := gb328) (o := .cells #[.int .i64 a0_0, .slice A0_1 l0_1.length c0_1, .slice A0_2 l0_2.length c0_2, .int .i64 a0_3, .slice A0_4 l0_4.length c0_4] 48 (0, 0)) (by (with_reducible repeat (first | refine zN ?_ _ | refine zD ?_ | refine zA ?_ _)); exact BK328.out) hb); have n4_ := qM (blk_below (g := gb329) (o := .cells #[.int .i64 0, .slice none 0 0, .slice none 0 0, .int .i64 0, .slice none 0 0] 48 (0, 0)) (by (with_reducible repeat (first | refine zN ?_ _ | refine zD ?_ | refine zA ?_ _)); exact BK329.out) hb); have n5_ := qM (below_step (by repeat (first | (with_reducible first | exact HB.out | apply yA | apply yN | apply yD | refine yS ?_ GE328.out | refine yS ?_ GE329.out) | exact HB.out)) hb); have n6_ := qM (hbox); have n7_ := qM ((by rw [hg]; exact (below_size (by repeat (first | (with_reducible first | exact HB.out | apply yA | apply yN | apply yD | refine yS ?_ GE328.out | refine yS ?_ GE329.out) | exact HB.out))) : w.heap.size ≤ gb343)); have n8_ := qM ((by rw [hg]; exact (below_size (by repeat (first | (with_reducible first | exact HB.out | apply yA | apply yN | apply yD | refine yS ?_ GE328.out | refine yS ?_ GE329.out) | exact HB.out))) : w.heap.size ≤ gb343)); have n9_ := qM ((by rw [hg]; exact Nat.ne_of_lt (blk_lt (g := gb328) (o := .cells #[.int .i64 a0_0, .slice A0_1 l0_1.length c0_1, .slice A0_2 l0_2.length c0_2, .int .i64 a0_3, .slice A0_4 l0_4.length c0_4] 48 (0, 0)) (by (with_reducible repeat (first | refine zN ?_ _ | refine zD ?_ | refine zA ?_ _)); exact BK328.out)) : gb328 ≠ gb343)); have n10_ := qM ((by rw [hg]; exact Nat.ne_of_gt (blk_lt (g := gb328) (o := .cells #[.int .i64 a0_0, .slice A0_1 l0_1.length c0_1, .slice A0_2 l0_2.length c0_2, .int .i64 a0_3, .slice A0_4 l0_4.length c0_4] 48 (0, 0)) (by (with_reducible repeat (first | refine zN ?_ _ | refine zD ?_ | refine zA ?_ _)); exact BK328.out)) : gb343 ≠ gb328)); have n11_ := qM ((by rw [hg]; exact Nat.ne_of_lt (blk_lt (g := gb329) (o := .cells #[.int .i64 0, .slice none 0 0, .slice none 0 0, .int .i64 0, .slice none 0 0] 48 (0, 0)) (by (with_reducible repeat (first | refine zN ?_ _ | refine zD ?_ | refine zA ?_ _)); exact BK329.out)) : gb329 ≠ gb343)); have n12_ := qM ((by rw [hg]; exact Nat.ne_of_gt (blk_lt (g := gb329) (o := .cells #[.int .i64 0, .slice none 0 0, .slice none 0 0, .int .i64 0, .slice none 0 0] 48 (0, 0)) (by (with_reducible repeat (first | refine zN ?_ _ | refine zD ?_ | refine zA ?_ _)); exact BK329.out)) : gb343 ≠ gb329)); clear HO335; clear HO338; clear HO342; clear BK328; clear BK329; clear HB; have HO335 := n0_; have HO338 := n1_; have HO342 := n2_; have BK328 := n3_; have BK329 := n4_; have HB := n5_; have BK343 := n6_; have GW343 := n7_; have GE343 := n8_; have NB328_343 := n9_; have NB343_328 := n10_; have NB329_343 := n11_; have NB343_329 := n12_; clear n0_ n1_ n2_ n3_ n4_ n5_ n6_ n7_ n8_ n9_ n10_ n11_ n12_; clear hb hbox hg; have hnb24 := NB343_328.out; have hnc24 := NB328_343.out; have hnb25 := NB343_329.out; have hnc25 := NB329_343.out; have hcz26_0 : w23.cell? ⟨gb343, 0, none⟩ = some (.int .i64 0) := (zC BK343.out 0).trans rfl; have hcz26_1 : w23.cell? ⟨gb343, 1, none⟩ = some (.slice none 0 0) := (zC BK343.out 1).trans rfl; have hcz26_2 : w23.cell? ⟨gb343, 2, none⟩ = some (.slice none 0 0) := (zC BK343.out 2).trans rfl; have hcz26_3 : w23.cell? ⟨gb343, 3, none⟩ = some (.int .i64 0) := (zC BK343.out 3).trans rfl; have hcz26_4 : w23.cell? ⟨gb343, 4, none⟩ = some (.slice none 0 0) := (zC BK343.out 4).trans rfl; have hfz26_0 := zF BK343.out 0; have hfz26_1 := zF BK343.out 1; have hfz26_2 := zF BK343.out 2; have hfz26_3 := zF BK343.out 3; have hfz26_4 := zF BK343.out 4; obtain ⟨Ao27, co27, eo27⟩ := Kd.R_slice HO335.out; subst eo27; obtain ⟨Ao28, co28, eo28⟩ := Kd.R_slice HO338.out; subst eo28; obtain ⟨Ao29, co29, eo29⟩ := Kd.R_slice HO342.out; subst eo29; have hcz30_0 : w23.cell? ⟨gb329, 0, none⟩ = some (.int .i64 0) := (zC BK329.out 0).trans rfl; have hcz30_1 : w23.cell? ⟨gb329, 1, none⟩ = some (.slice none 0 0) := (zC BK329.out 1).trans rfl; have hcz30_2 : w23.cell? ⟨gb329, 2, none⟩ = some (.slice none 0 0) := (zC BK329.out 2).trans rfl; have hcz30_3 : w23.cell? ⟨gb329, 3, none⟩ = some (.int .i64 0) := (zC BK329.out 3).trans rfl; have hcz30_4 : w23.cell? ⟨gb329, 4, none⟩ = some (.slice none 0 0) := (zC BK329.out 4).trans rfl; have hfz30_0 := zF BK329.out 0; have hfz30_1 := zF BK329.out 1; have hfz30_2 := zF BK329.out 2; have hfz30_3 := zF BK329.out 3; have hfz30_4 := zF BK329.out 4))
          refine bodyPost_ret (results_ct rfl _ _ gb329 48 #[.int .i64 t332, .slice Ao27 t333.length co27, .slice Ao28 t336.length co28, .int .i64 t339, .slice Ao29 t340.length co29] (0, 0) _ rfl (by (with_reducible repeat (first | refine zN ?_ _ | refine zD ?_ | refine zA ?_ _)); refine blk_put (cs := #[.int .i64 t332, .slice Ao27 t333.length co27, .slice Ao28 t336.length co28, .int .i64 t339, .slice none 0 0]) ?_ 4 _ rfl; (with_reducible repeat (first | refine zN ?_ _ | refine zD ?_ | refine zA ?_ _)); refine blk_put (cs := #[.int .i64 t332, .slice Ao27 t333.length co27, .slice Ao28 t336.length co28, .int .i64 0, .slice none 0 0]) ?_ 3 _ rfl; (with_reducible repeat (first | refine zN ?_ _ | refine zD ?_ | refine zA ?_ _)); refine blk_put (cs := #[.int .i64 t332, .slice Ao27 t333.length co27, .slice none 0 0, .int .i64 0, .slice none 0 0]) ?_ 2 _ rfl; (with_reducible repeat (first | refine zN ?_ _ | refine zD ?_ | refine zA ?_ _)); refine blk_put (cs := #[.int .i64 t332, .slice none 0 0, .slice none 0 0, .int .i64 0, .slice none 0 0]) ?_ 1 _ rfl; (with_reducible repeat (first | refine zN ?_ _ | refine zD ?_ | refine zA ?_ _)); refine blk_put (cs := #[.int .i64 0, .slice none 0 0, .slice none 0 0, .int .i64 0, .slice none 0 0]) ?_ 0 _ rfl; (with_reducible repeat (first | refine zN ?_ _ | refine zD ?_ | refine zA ?_ _)); refine blk_far ?_ NB329_343.out _; (with_reducible repeat (first | refine zN ?_ _ | refine zD ?_ | refine zA ?_ _)); refine blk_far ?_ NB329_343.out _; (with_reducible repeat (first | refine zN ?_ _ | refine zD ?_ | refine zA ?_ _)); refine blk_far ?_ NB329_343.out _; (with_reducible repeat (first | refine zN ?_ _ | refine zD ?_ | refine zA ?_ _)); refine blk_far ?_ NB329_343.out _; (with_reducible repeat (first | refine zN ?_ _ | refine zD ?_ | refine zA ?_ _)); refine blk_far ?_ NB329_343.out _; (with_reducible repeat (first | refine zN ?_ _ | refine zD ?_ | refine zA ?_ _)); exact BK329.out) Try.underlying48 rfl (by kernel_rfl)) rfl ?_
          exact ⟨_, _, _, by first | rfl | (simp [errW_none, errW_some] <;> rfl) | (simp [*, errW_none, errW_some] <;> rfl), by (with_reducible repeat (first | apply qA | apply qN | apply qD)); exact Kd.R_mono (qF (p := ⟨gb329, 4, none⟩) (qF (p := ⟨gb329, 3, none⟩) (qF (p := ⟨gb329, 2, none⟩) (qF (p := ⟨gb329, 1, none⟩) (qF (p := ⟨gb329, 0, none⟩) (qF (p := ⟨gb343, 4, none⟩) (qF (p := ⟨gb343, 3, none⟩) (qF (p := ⟨gb343, 2, none⟩) (qF (p := ⟨gb343, 1, none⟩) (qF (p := ⟨gb343, 0, none⟩) (Kd.R_types (Kd.R_types HO335.out BK343.out (by decide)) BK329.out (by decide)) (fun _ hk => hk.1.2) (.int .i64 t332)) (fun _ hk => hk.1.2) (.slice Ao27 t333.length co27)) (fun _ hk => hk.1.2) (.slice Ao28 t336.length co28)) (fun _ hk => hk.1.2) (.int .i64 t339)) (fun _ hk => hk.1.2) (.slice Ao29 t340.length co29)) (fun _ hk => hk.2) (.int .i64 t332)) (fun _ hk => hk.2) (.slice Ao27 t333.length co27)) (fun _ hk => hk.2) (.slice Ao28 t336.length co28)) (fun _ hk => hk.2) (.int .i64 t339)) (fun _ hk => hk.2) (.slice Ao29 t340.length co29)) (fun _ hk => hk.1.1), by (with_reducible repeat (first | apply qA | apply qN | apply qD)); exact Kd.R_mono (qF (p := ⟨gb329, 4, none⟩) (qF (p := ⟨gb329, 3, none⟩) (qF (p := ⟨gb329, 2, none⟩) (qF (p := ⟨gb329, 1, none⟩) (qF (p := ⟨gb329, 0, none⟩) (qF (p := ⟨gb343, 4, none⟩) (qF (p := ⟨gb343, 3, none⟩) (qF (p := ⟨gb343, 2, none⟩) (qF (p := ⟨gb343, 1, none⟩) (qF (p := ⟨gb343, 0, none⟩) (Kd.R_types (Kd.R_types HO338.out BK343.out (by decide)) BK329.out (by decide)) (fun _ hk => hk.1.2) (.int .i64 t332)) (fun _ hk => hk.1.2) (.slice Ao27 t333.length co27)) (fun _ hk => hk.1.2) (.slice Ao28 t336.length co28)) (fun _ hk => hk.1.2) (.int .i64 t339)) (fun _ hk => hk.1.2) (.slice Ao29 t340.length co29)) (fun _ hk => hk.2) (.int .i64 t332)) (fun _ hk => hk.2) (.slice Ao27 t333.length co27)) (fun _ hk => hk.2) (.slice Ao28 t336.length co28)) (fun _ hk => hk.2) (.int .i64 t339)) (fun _ hk => hk.2) (.slice Ao29 t340.length co29)) (fun _ hk => hk.1.1), by (with_reducible repeat (first | apply qA | apply qN | apply qD)); exact Kd.R_mono (qF (p := ⟨gb329, 4, none⟩) (qF (p := ⟨gb329, 3, none⟩) (qF (p := ⟨gb329, 2, none⟩) (qF (p := ⟨gb329, 1, none⟩) (qF (p := ⟨gb329, 0, none⟩) (qF (p := ⟨gb343, 4, none⟩) (qF (p := ⟨gb343, 3, none⟩) (qF (p := ⟨gb343, 2, none⟩) (qF (p := ⟨gb343, 1, none⟩) (qF (p := ⟨gb343, 0, none⟩) (Kd.R_types (Kd.R_types HO342.out BK343.out (by decide)) BK329.out (by decide)) (fun _ hk => hk.1.2) (.int .i64 t332)) (fun _ hk => hk.1.2) (.slice Ao27 t333.length co27)) (fun _ hk => hk.1.2) (.slice Ao28 t336.length co28)) (fun _ hk => hk.1.2) (.int .i64 t339)) (fun _ hk => hk.1.2) (.slice Ao29 t340.length co29)) (fun _ hk => hk.2) (.int .i64 t332)) (fun _ hk => hk.2) (.slice Ao27 t333.length co27)) (fun _ hk => hk.2) (.slice Ao28 t336.length co28)) (fun _ hk => hk.2) (.int .i64 t339)) (fun _ hk => hk.2) (.slice Ao29 t340.length co29)) (fun _ hk => trivial), by repeat (first | (with_reducible first | exact HB.out | apply yA | apply yN | apply yD | refine yS ?_ GE328.out | refine yS ?_ GE329.out | refine yS ?_ GE343.out) | exact HB.out)⟩
        · rw [if_neg c19] at H
          have c19b0 : ((t340.length : Int) == 6) = false := beq_eq_false_iff_ne.mpr c19
          have c19b1 : ((t340.length : Int) != 6) = true := bne_iff_ne.mpr c19
          by_cases c31 : t340.length < 140737488355328
          · rw [if_pos c31] at H
            have LMc31 := qM c31
            clear c31
            obtain ⟨y344, hy344⟩ : ∃ y_ : List Int, y_ = (t340 ++ [(a1) % 256]) := ⟨_, rfl⟩
            replace H : (some (t332, t333, t336, t339, y344, true)) = some (r1, r2, r3, r4, r5, r6) := by first | (rw [hy344]; with_reducible exact H) | (have H2_ := (Option.bind_some _ _).symm.trans H; rw [hy344]; with_reducible exact H2_) | (have H2_ := (Option.bind_some _ _).symm.trans H; with_reducible exact H2_) | with_reducible exact H | (rw [hy344]; exact H) | exact H
            have Ny344 := qM hy344
            clear hy344
            simp only [Option.some.injEq, Prod.mk.injEq] at H
            obtain ⟨rfl, rfl, rfl, rfl, rfl, rfl⟩ := H
            have hnb32 := NB328_329.out
            have hnc32 := NB329_328.out
            have hcz33_0 : wc.cell? ⟨gb328, 0, none⟩ = some (.int .i64 a0_0) := (zC BK328.out 0).trans rfl
            have hcz33_1 : wc.cell? ⟨gb328, 1, none⟩ = some (.slice A0_1 l0_1.length c0_1) := (zC BK328.out 1).trans rfl
            have hcz33_2 : wc.cell? ⟨gb328, 2, none⟩ = some (.slice A0_2 l0_2.length c0_2) := (zC BK328.out 2).trans rfl
            have hcz33_3 : wc.cell? ⟨gb328, 3, none⟩ = some (.int .i64 a0_3) := (zC BK328.out 3).trans rfl
            have hcz33_4 : wc.cell? ⟨gb328, 4, none⟩ = some (.slice A0_4 l0_4.length c0_4) := (zC BK328.out 4).trans rfl
            have hfz33_0 := zF BK328.out 0
            have hfz33_1 := zF BK328.out 1
            have hfz33_2 := zF BK328.out 2
            have hfz33_3 := zF BK328.out 3
            have hfz33_4 := zF BK328.out 4
            go_wp2_with (first | ((with_reducible refine gate_callee (f := 75) rfl ?_); refine goesL_ (some 17) rfl rfl Try.func75 (by kernel_rfl) rfl #[.agg #[.int .i64 a0_0, .slice A0_1 l0_1.length c0_1, .slice A0_2 l0_2.length c0_2, .int .i64 a0_3, .slice A0_4 l0_4.length c0_4]] rfl (by (try simp only [List.map_toArray, List.map_cons, List.map_nil]); first | done | rfl | (simp only [List.length_drop, List.length_take]; rfl)) ?_; (with_reducible refine (spec_l14Copy.calls a0_0 _ _ l0_1 _ _ l0_2 a0_3 _ _ l0_4 t332 t333 t336 t339 t340 _ ?side1 ?side2 ?side3 ?side4 ?side5 ?side6 A18.out).mono ?_); (case side1 => repeat (first | exact (Kd.C_below HR0_1.out HB.out) | (with_reducible refine Kd.C_alloc ?_ _) | (with_reducible refine Kd.C_drewN ?_ _) | (with_reducible refine Kd.C_drew ?_))); (case side2 => exact HC0_1.out); (case side3 => repeat (first | exact (Kd.C_below HR0_2.out HB.out) | (with_reducible refine Kd.C_alloc ?_ _) | (with_reducible refine Kd.C_drewN ?_ _) | (with_reducible refine Kd.C_drew ?_))); (case side4 => exact HC0_2.out); (case side5 => repeat (first | exact (Kd.C_below HR0_4.out HB.out) | (with_reducible refine Kd.C_alloc ?_ _) | (with_reducible refine Kd.C_drewN ?_ _) | (with_reducible refine Kd.C_drew ?_))); (case side6 => exact HC0_4.out); rintro e w34 ⟨v334, v337, v341, rfl, ho0, ho1, ho2, hb⟩; refine ⟨_, rfl, ?_⟩; have n0_ := qM (Kd.R_lower ho0 (below_size (by repeat (first | (with_reducible first | exact HB.out | apply yA | apply yN | apply yD | refine yS ?_ GE328.out | refine yS ?_ GE329.out) | exact HB.out)))); have n1_ := qM (Kd.R_lower ho1 (below_size (by repeat (first | (with_reducible first | exact HB.out | apply yA | apply yN | apply yD | refine yS ?_ GE328.out | refine yS ?_ GE329.out) | exact HB.out)))); have n2_ := qM (Kd.R_lower ho2 (below_size (by repeat (first | (with_reducible first | exact HB.out | apply yA | apply yN | apply yD | refine yS ?_ GE328.out | refine yS ?_ GE329.out) | exact HB.out)))); have n3_ := qM (blk_below (g := gb328) (o := .cells #[.int .i64 a0_0, .slice A0_1 l0_1.length c0_1, .slice A0_2 l0_2.length c0_2, .int .i64 a0_3, .slice A0_4 l0_4.length c0_4] 48 (0, 0)) (by (with_reducible repeat (first | refine zN ?_ _ | refine zD ?_ | refine zA ?_ _)); exact BK328.out) hb); have n4_ := qM (blk_below (g := gb329) (o := .cells #[.int .i64 0, .slice none 0 0, .slice none 0 0, .int .i64 0, .slice none 0 0] 48 (0, 0)) (by (with_reducible repeat (first | refine zN ?_ _ | refine zD ?_ | refine zA ?_ _)); exact BK329.out) hb); have n5_ := qM (below_step (by repeat (first | (with_reducible first | exact HB.out | apply yA | apply yN | apply yD | refine yS ?_ GE328.out | refine yS ?_ GE329.out) | exact HB.out)) hb); clear BK328; clear BK329; clear HB; have HO335 := n0_; have HO338 := n1_; have HO342 := n2_; have BK328 := n3_; have BK329 := n4_; have HB := n5_; clear n0_ n1_ n2_ n3_ n4_ n5_; (try clear hb); (try clear hb2); (try clear hk); (try clear hi); (try clear ho0); (try clear ho1); (try clear ho2)) | ((with_reducible refine gate_dst (N := 6) rfl ?_); refine box_event ?hg (N := 6) ?hd (cs := #[.int .i64 0, .slice none 0 0, .slice none 0 0, .int .i64 0, .slice none 0 0]) (t := 48) ?hr ?_; (case hd => rfl); (case hg => rfl); (case hr => first | (go_simp; done) | (go_simp; rfl)); intro gb343 hg w35 hbox hb; have n0_ := qM (Kd.R_below (by (with_reducible repeat (first | apply qA | apply qN | apply qD)); exact HO335.out) hb); have n1_ := qM (Kd.R_below (by (with_reducible repeat (first | apply qA | apply qN | apply qD)); exact HO338.out) hb); have n2_ := qM (Kd.R_below (by (with_reducible repeat (first | apply qA | apply qN | apply qD)); exact HO342.out) hb); have n3_ := qM (blk_below (g := gb328) (o := .cells #[.int .i64 a0_0, .slice A0_1 l0_1.length c0_1, .slice A0_2 l0_2.length c0_2, .int .i64 a0_3, .slice A0_4 l0_4.length c0_4] 48 (0, 0)) (by (with_reducible repeat (first | refine zN ?_ _ | refine zD ?_ | refine zA ?_ _)); exact BK328.out) hb); have n4_ := qM (blk_below (g := gb329) (o := .cells #[.int .i64 0, .slice none 0 0, .slice none 0 0, .int .i64 0, .slice none 0 0] 48 (0, 0)) (by (with_reducible repeat (first | refine zN ?_ _ | refine zD ?_ | refine zA ?_ _)); exact BK329.out) hb); have n5_ := qM (below_step (by repeat (first | (with_reducible first | exact HB.out | apply yA | apply yN | apply yD | refine yS ?_ GE328.out | refine yS ?_ GE329.out) | exact HB.out)) hb); have n6_ := qM (hbox); have n7_ := qM ((by rw [hg]; exact (below_size (by repeat (first | (with_reducible first | exact HB.out | apply yA | apply yN | apply yD | refine yS ?_ GE328.out | refine yS ?_ GE329.out) | exact HB.out))) : w.heap.size ≤ gb343)); have n8_ := qM ((by rw [hg]; exact (below_size (by repeat (first | (with_reducible first | exact HB.out | apply yA | apply yN | apply yD | refine yS ?_ GE328.out | refine yS ?_ GE329.out) | exact HB.out))) : w.heap.size ≤ gb343)); have n9_ := qM ((by rw [hg]; exact Nat.ne_of_lt (blk_lt (g := gb328) (o := .cells #[.int .i64 a0_0, .slice A0_1 l0_1.length c0_1, .slice A0_2 l0_2.length c0_2, .int .i64 a0_3, .slice A0_4 l0_4.length c0_4] 48 (0, 0)) (by (with_reducible repeat (first | refine zN ?_ _ | refine zD ?_ | refine zA ?_ _)); exact BK328.out)) : gb328 ≠ gb343)); have n10_ := qM ((by rw [hg]; exact Nat.ne_of_gt (blk_lt (g := gb328) (o := .cells #[.int .i64 a0_0, .slice A0_1 l0_1.length c0_1, .slice A0_2 l0_2.length c0_2, .int .i64 a0_3, .slice A0_4 l0_4.length c0_4] 48 (0, 0)) (by (with_reducible repeat (first | refine zN ?_ _ | refine zD ?_ | refine zA ?_ _)); exact BK328.out)) : gb343 ≠ gb328)); have n11_ := qM ((by rw [hg]; exact Nat.ne_of_lt (blk_lt (g := gb329) (o := .cells #[.int .i64 0, .slice none 0 0, .slice none 0 0, .int .i64 0, .slice none 0 0] 48 (0, 0)) (by (with_reducible repeat (first | refine zN ?_ _ | refine zD ?_ | refine zA ?_ _)); exact BK329.out)) : gb329 ≠ gb343)); have n12_ := qM ((by rw [hg]; exact Nat.ne_of_gt (blk_lt (g := gb329) (o := .cells #[.int .i64 0, .slice none 0 0, .slice none 0 0, .int .i64 0, .slice none 0 0] 48 (0, 0)) (by (with_reducible repeat (first | refine zN ?_ _ | refine zD ?_ | refine zA ?_ _)); exact BK329.out)) : gb343 ≠ gb329)); clear HO335; clear HO338; clear HO342; clear BK328; clear BK329; clear HB; have HO335 := n0_; have HO338 := n1_; have HO342 := n2_; have BK328 := n3_; have BK329 := n4_; have HB := n5_; have BK343 := n6_; have GW343 := n7_; have GE343 := n8_; have NB328_343 := n9_; have NB343_328 := n10_; have NB329_343 := n11_; have NB343_329 := n12_; clear n0_ n1_ n2_ n3_ n4_ n5_ n6_ n7_ n8_ n9_ n10_ n11_ n12_; clear hb hbox hg; have hnb36 := NB343_328.out; have hnc36 := NB328_343.out; have hnb37 := NB343_329.out; have hnc37 := NB329_343.out; have hcz38_0 : w35.cell? ⟨gb343, 0, none⟩ = some (.int .i64 0) := (zC BK343.out 0).trans rfl; have hcz38_1 : w35.cell? ⟨gb343, 1, none⟩ = some (.slice none 0 0) := (zC BK343.out 1).trans rfl; have hcz38_2 : w35.cell? ⟨gb343, 2, none⟩ = some (.slice none 0 0) := (zC BK343.out 2).trans rfl; have hcz38_3 : w35.cell? ⟨gb343, 3, none⟩ = some (.int .i64 0) := (zC BK343.out 3).trans rfl; have hcz38_4 : w35.cell? ⟨gb343, 4, none⟩ = some (.slice none 0 0) := (zC BK343.out 4).trans rfl; have hfz38_0 := zF BK343.out 0; have hfz38_1 := zF BK343.out 1; have hfz38_2 := zF BK343.out 2; have hfz38_3 := zF BK343.out 3; have hfz38_4 := zF BK343.out 4; obtain ⟨Ao39, co39, eo39⟩ := Kd.R_slice HO335.out; subst eo39; obtain ⟨Ao40, co40, eo40⟩ := Kd.R_slice HO338.out; subst eo40; obtain ⟨Ao41, co41, eo41⟩ := Kd.R_slice HO342.out; subst eo41) | ((with_reducible refine gate_builtin (b := .append) (xs := #[.tmp 24, .tmp 27]) rfl ?_); at_builtin; refine Kd.R_append (Kd.int .u8) (w0 := w) w.heap.size rfl (.tmp 24) (.tmp 27) 25 5 (.int .u8 0) 1 rfl Try.underlying25 info5 rfl (by decide) (by omega) (.slice Ao41 t340.length co41) t340 ((a1) % 256) [.int .u8 ((a1) % 256)] (fun _ => True) (fun _ => False) rfl (by first | (go_simp; done) | (go_simp; rfl)) ?aP (fun _ hk => hk.elim) ?aF ?aO ?aB ?aS ?aL ?_; (case aP => exact rfl); (case aB => exact (by repeat (first | (with_reducible first | exact HB.out | apply yA | apply yN | apply yD | refine yS ?_ GE328.out | refine yS ?_ GE329.out | refine yS ?_ GE343.out) | exact HB.out))); (case aF => exact (fun _ _ => trivial)); (case aO => exact (by (with_reducible repeat (first | apply qA | apply qN | apply qD)); exact Kd.R_mono (qF (p := ⟨gb343, 4, none⟩) (qF (p := ⟨gb343, 3, none⟩) (qF (p := ⟨gb343, 2, none⟩) (qF (p := ⟨gb343, 1, none⟩) (qF (p := ⟨gb343, 0, none⟩) (Kd.R_types HO342.out BK343.out (by decide)) (fun _ hk => hk.2) (.int .i64 t332)) (fun _ hk => hk.2) (.slice Ao39 t333.length co39)) (fun _ hk => hk.2) (.slice Ao40 t336.length co40)) (fun _ hk => hk.2) (.int .i64 t339)) (fun _ hk => hk.2) (.slice Ao41 t340.length co41)) (fun _ hk => trivial))); (case aS => exact (below_size (by repeat (first | (with_reducible first | exact HB.out | apply yA | apply yN | apply yD | refine yS ?_ GE328.out | refine yS ?_ GE329.out | refine yS ?_ GE343.out) | exact HB.out)))); (case aL => have := LMc31.out; omega); intro v345 w42 ho hb hg hat; rw [← Ny344.out] at ho; have n0_ := qM (blk_grown (g := gb328) (o := .cells #[.int .i64 a0_0, .slice A0_1 l0_1.length c0_1, .slice A0_2 l0_2.length c0_2, .int .i64 a0_3, .slice A0_4 l0_4.length c0_4] 48 (0, 0)) (by (with_reducible repeat (first | refine zN ?_ _ | refine zD ?_ | refine zA ?_ _)); refine blk_far ?_ NB328_343.out _; (with_reducible repeat (first | refine zN ?_ _ | refine zD ?_ | refine zA ?_ _)); refine blk_far ?_ NB328_343.out _; (with_reducible repeat (first | refine zN ?_ _ | refine zD ?_ | refine zA ?_ _)); refine blk_far ?_ NB328_343.out _; (with_reducible repeat (first | refine zN ?_ _ | refine zD ?_ | refine zA ?_ _)); refine blk_far ?_ NB328_343.out _; (with_reducible repeat (first | refine zN ?_ _ | refine zD ?_ | refine zA ?_ _)); refine blk_far ?_ NB328_343.out _; (with_reducible repeat (first | refine zN ?_ _ | refine zD ?_ | refine zA ?_ _)); exact BK328.out) hg (Kd.R_ne HO342.out BK328.out (by decide))); have n1_ := qM (blk_grown (g := gb329) (o := .cells #[.int .i64 0, .slice none 0 0, .slice none 0 0, .int .i64 0, .slice none 0 0] 48 (0, 0)) (by (with_reducible repeat (first | refine zN ?_ _ | refine zD ?_ | refine zA ?_ _)); refine blk_far ?_ NB329_343.out _; (with_reducible repeat (first | refine zN ?_ _ | refine zD ?_ | refine zA ?_ _)); refine blk_far ?_ NB329_343.out _; (with_reducible repeat (first | refine zN ?_ _ | refine zD ?_ | refine zA ?_ _)); refine blk_far ?_ NB329_343.out _; (with_reducible repeat (first | refine zN ?_ _ | refine zD ?_ | refine zA ?_ _)); refine blk_far ?_ NB329_343.out _; (with_reducible repeat (first | refine zN ?_ _ | refine zD ?_ | refine zA ?_ _)); refine blk_far ?_ NB329_343.out _; (with_reducible repeat (first | refine zN ?_ _ | refine zD ?_ | refine zA ?_ _)); exact BK329.out) hg (Kd.R_ne HO342.out BK329.out (by decide))); have n2_ := qM (Kd.R_over' (by (with_reducible repeat (first | apply qA | apply qN | apply qD)); exact (Kd.R_mono (qF (p := ⟨gb343, 4, none⟩) (qF (p := ⟨gb343, 3, none⟩) (qF (p := ⟨gb343, 2, none⟩) (qF (p := ⟨gb343, 1, none⟩) (qF (p := ⟨gb343, 0, none⟩) (Kd.R_types HO335.out BK343.out (by decide)) (fun _ hk => hk.2) (.int .i64 t332)) (fun _ hk => hk.2) (.slice Ao39 t333.length co39)) (fun _ hk => hk.2) (.slice Ao40 t336.length co40)) (fun _ hk => hk.2) (.int .i64 t339)) (fun _ hk => hk.2) (.slice Ao41 t340.length co41)) (fun _ h_ => h_.1))) (Kd.R_typed (by (with_reducible repeat (first | apply qA | apply qN | apply qD)); exact (Kd.R_mono (qF (p := ⟨gb343, 4, none⟩) (qF (p := ⟨gb343, 3, none⟩) (qF (p := ⟨gb343, 2, none⟩) (qF (p := ⟨gb343, 1, none⟩) (qF (p := ⟨gb343, 0, none⟩) (Kd.R_types HO342.out BK343.out (by decide)) (fun _ hk => hk.2) (.int .i64 t332)) (fun _ hk => hk.2) (.slice Ao39 t333.length co39)) (fun _ hk => hk.2) (.slice Ao40 t336.length co40)) (fun _ hk => hk.2) (.int .i64 t339)) (fun _ hk => hk.2) (.slice Ao41 t340.length co41)) (fun _ h_ => h_.1)))) (by decide) hg); have n3_ := qM (Kd.R_over' (by (with_reducible repeat (first | apply qA | apply qN | apply qD)); exact (Kd.R_mono (qF (p := ⟨gb343, 4, none⟩) (qF (p := ⟨gb343, 3, none⟩) (qF (p := ⟨gb343, 2, none⟩) (qF (p := ⟨gb343, 1, none⟩) (qF (p := ⟨gb343, 0, none⟩) (Kd.R_types HO338.out BK343.out (by decide)) (fun _ hk => hk.2) (.int .i64 t332)) (fun _ hk => hk.2) (.slice Ao39 t333.length co39)) (fun _ hk => hk.2) (.slice Ao40 t336.length co40)) (fun _ hk => hk.2) (.int .i64 t339)) (fun _ hk => hk.2) (.slice Ao41 t340.length co41)) (fun _ h_ => h_.1))) (Kd.R_typed (by (with_reducible repeat (first | apply qA | apply qN | apply qD)); exact (Kd.R_mono (qF (p := ⟨gb343, 4, none⟩) (qF (p := ⟨gb343, 3, none⟩) (qF (p := ⟨gb343, 2, none⟩) (qF (p := ⟨gb343, 1, none⟩) (qF (p := ⟨gb343, 0, none⟩) (Kd.R_types HO342.out BK343.out (by decide)) (fun _ hk => hk.2) (.int .i64 t332)) (fun _ hk => hk.2) (.slice Ao39 t333.length co39)) (fun _ hk => hk.2) (.slice Ao40 t336.length co40)) (fun _ hk => hk.2) (.int .i64 t339)) (fun _ hk => hk.2) (.slice Ao41 t340.length co41)) (fun _ h_ => h_.1)))) (by decide) hg); have n4_ := qM (blk_grown (g := gb343) (o := .cells #[.int .i64 t332, .slice Ao39 t333.length co39, .slice Ao40 t336.length co40, .int .i64 t339, .slice Ao41 t340.length co41] 48 (0, 0)) (by (with_reducible repeat (first | refine zN ?_ _ | refine zD ?_ | refine zA ?_ _)); refine blk_put (cs := #[.int .i64 t332, .slice Ao39 t333.length co39, .slice Ao40 t336.length co40, .int .i64 t339, .slice none 0 0]) ?_ 4 _ rfl; (with_reducible repeat (first | refine zN ?_ _ | refine zD ?_ | refine zA ?_ _)); refine blk_put (cs := #[.int .i64 t332, .slice Ao39 t333.length co39, .slice Ao40 t336.length co40, .int .i64 0, .slice none 0 0]) ?_ 3 _ rfl; (with_reducible repeat (first | refine zN ?_ _ | refine zD ?_ | refine zA ?_ _)); refine blk_put (cs := #[.int .i64 t332, .slice Ao39 t333.length co39, .slice none 0 0, .int .i64 0, .slice none 0 0]) ?_ 2 _ rfl; (with_reducible repeat (first | refine zN ?_ _ | refine zD ?_ | refine zA ?_ _)); refine blk_put (cs := #[.int .i64 t332, .slice none 0 0, .slice none 0 0, .int .i64 0, .slice none 0 0]) ?_ 1 _ rfl; (with_reducible repeat (first | refine zN ?_ _ | refine zD ?_ | refine zA ?_ _)); refine blk_put (cs := #[.int .i64 0, .slice none 0 0, .slice none 0 0, .int .i64 0, .slice none 0 0]) ?_ 0 _ rfl; (with_reducible repeat (first | refine zN ?_ _ | refine zD ?_ | refine zA ?_ _)); exact BK343.out) hg (Kd.R_ne HO342.out BK343.out (by decide))); have n5_ := qM (hb); have n6_ := qM (ho); clear BK328; clear BK329; clear HO335; clear HO338; clear BK343; clear HB; clear HO342; have BK328 := n0_; have BK329 := n1_; have HO335 := n2_; have HO338 := n3_; have BK343 := n4_; have HB := n5_; have HO346 := n6_; clear n0_ n1_ n2_ n3_ n4_ n5_ n6_; clear ho hb hg hat; obtain ⟨Ao43, co43, eo43⟩ := Kd.R_slice HO346.out; subst eo43; have hcz44_0 : w42.cell? ⟨gb343, 0, none⟩ = some (.int .i64 t332) := (zC BK343.out 0).trans rfl; have hcz44_1 : w42.cell? ⟨gb343, 1, none⟩ = some (.slice Ao39 t333.length co39) := (zC BK343.out 1).trans rfl; have hcz44_2 : w42.cell? ⟨gb343, 2, none⟩ = some (.slice Ao40 t336.length co40) := (zC BK343.out 2).trans rfl; have hcz44_3 : w42.cell? ⟨gb343, 3, none⟩ = some (.int .i64 t339) := (zC BK343.out 3).trans rfl; have hcz44_4 : w42.cell? ⟨gb343, 4, none⟩ = some (.slice Ao41 t340.length co41) := (zC BK343.out 4).trans rfl; have hfz44_0 := zF BK343.out 0; have hfz44_1 := zF BK343.out 1; have hfz44_2 := zF BK343.out 2; have hfz44_3 := zF BK343.out 3; have hfz44_4 := zF BK343.out 4; have hcz45_0 : w42.cell? ⟨gb329, 0, none⟩ = some (.int .i64 0) := (zC BK329.out 0).trans rfl; have hcz45_1 : w42.cell? ⟨gb329, 1, none⟩ = some (.slice none 0 0) := (zC BK329.out 1).trans rfl; have hcz45_2 : w42.cell? ⟨gb329, 2, none⟩ = some (.slice none 0 0) := (zC BK329.out 2).trans rfl; have hcz45_3 : w42.cell? ⟨gb329, 3, none⟩ = some (.int .i64 0) := (zC BK329.out 3).trans rfl; have hcz45_4 : w42.cell? ⟨gb329, 4, none⟩ = some (.slice none 0 0) := (zC BK329.out 4).trans rfl; have hfz45_0 := zF BK329.out 0; have hfz45_1 := zF BK329.out 1; have hfz45_2 := zF BK329.out 2; have hfz45_3 := zF BK329.out 3; have hfz45_4 := zF BK329.out 4))
            refine bodyPost_ret (results_ct rfl _ _ gb329 48 #[.int .i64 t332, .slice Ao39 t333.length co39, .slice Ao40 t336.length co40, .int .i64 t339, .slice Ao43 y344.length co43] (0, 0) _ rfl (by (with_reducible repeat (first | refine zN ?_ _ | refine zD ?_ | refine zA ?_ _)); refine blk_put (cs := #[.int .i64 t332, .slice Ao39 t333.length co39, .slice Ao40 t336.length co40, .int .i64 t339, .slice none 0 0]) ?_ 4 _ rfl; (with_reducible repeat (first | refine zN ?_ _ | refine zD ?_ | refine zA ?_ _)); refine blk_put (cs := #[.int .i64 t332, .slice Ao39 t333.length co39, .slice Ao40 t336.length co40, .int .i64 0, .slice none 0 0]) ?_ 3 _ rfl; (with_reducible repeat (first | refine zN ?_ _ | refine zD ?_ | refine zA ?_ _)); refine blk_put (cs := #[.int .i64 t332, .slice Ao39 t333.length co39, .slice none 0 0, .int .i64 0, .slice none 0 0]) ?_ 2 _ rfl; (with_reducible repeat (first | refine zN ?_ _ | refine zD ?_ | refine zA ?_ _)); refine blk_put (cs := #[.int .i64 t332, .slice none 0 0, .slice none 0 0, .int .i64 0, .slice none 0 0]) ?_ 1 _ rfl; (with_reducible repeat (first | refine zN ?_ _ | refine zD ?_ | refine zA ?_ _)); refine blk_put (cs := #[.int .i64 0, .slice none 0 0, .slice none 0 0, .int .i64 0, .slice none 0 0]) ?_ 0 _ rfl; (with_reducible repeat (first | refine zN ?_ _ | refine zD ?_ | refine zA ?_ _)); refine blk_far ?_ NB329_343.out _; (with_reducible repeat (first | refine zN ?_ _ | refine zD ?_ | refine zA ?_ _)); exact BK329.out) Try.underlying48 rfl (by kernel_rfl)) rfl ?_
            exact ⟨_, _, _, by first | rfl | (simp [errW_none, errW_some] <;> rfl) | (simp [*, errW_none, errW_some] <;> rfl), by (with_reducible repeat (first | apply qA | apply qN | apply qD)); exact Kd.R_mono (qF (p := ⟨gb329, 4, none⟩) (qF (p := ⟨gb329, 3, none⟩) (qF (p := ⟨gb329, 2, none⟩) (qF (p := ⟨gb329, 1, none⟩) (qF (p := ⟨gb329, 0, none⟩) (qF (p := ⟨gb343, 4, none⟩) (Kd.R_types (Kd.R_types HO335.out BK343.out (by decide)) BK329.out (by decide)) (fun _ hk => hk.1.2) (.slice Ao43 y344.length co43)) (fun _ hk => hk.2) (.int .i64 t332)) (fun _ hk => hk.2) (.slice Ao39 t333.length co39)) (fun _ hk => hk.2) (.slice Ao40 t336.length co40)) (fun _ hk => hk.2) (.int .i64 t339)) (fun _ hk => hk.2) (.slice Ao43 y344.length co43)) (fun _ hk => hk.1.1), by (with_reducible repeat (first | apply qA | apply qN | apply qD)); exact Kd.R_mono (qF (p := ⟨gb329, 4, none⟩) (qF (p := ⟨gb329, 3, none⟩) (qF (p := ⟨gb329, 2, none⟩) (qF (p := ⟨gb329, 1, none⟩) (qF (p := ⟨gb329, 0, none⟩) (qF (p := ⟨gb343, 4, none⟩) (Kd.R_types (Kd.R_types HO338.out BK343.out (by decide)) BK329.out (by decide)) (fun _ hk => hk.1.2) (.slice Ao43 y344.length co43)) (fun _ hk => hk.2) (.int .i64 t332)) (fun _ hk => hk.2) (.slice Ao39 t333.length co39)) (fun _ hk => hk.2) (.slice Ao40 t336.length co40)) (fun _ hk => hk.2) (.int .i64 t339)) (fun _ hk => hk.2) (.slice Ao43 y344.length co43)) (fun _ hk => hk.1.1), by (with_reducible repeat (first | apply qA | apply qN | apply qD)); exact Kd.R_mono (qF (p := ⟨gb329, 4, none⟩) (qF (p := ⟨gb329, 3, none⟩) (qF (p := ⟨gb329, 2, none⟩) (qF (p := ⟨gb329, 1, none⟩) (qF (p := ⟨gb329, 0, none⟩) (qF (p := ⟨gb343, 4, none⟩) (Kd.R_types (Kd.R_types HO346.out BK343.out (by decide)) BK329.out (by decide)) (fun _ hk => hk.1.2) (.slice Ao43 y344.length co43)) (fun _ hk => hk.2) (.int .i64 t332)) (fun _ hk => hk.2) (.slice Ao39 t333.length co39)) (fun _ hk => hk.2) (.slice Ao40 t336.length co40)) (fun _ hk => hk.2) (.int .i64 t339)) (fun _ hk => hk.2) (.slice Ao43 y344.length co43)) (fun _ hk => trivial), by repeat (first | (with_reducible first | exact HB.out | apply yA | apply yN | apply yD | refine yS ?_ GE328.out | refine yS ?_ GE329.out | refine yS ?_ GE343.out) | exact HB.out)⟩
          · rw [if_neg c31] at H
            exact absurd H (by simp)

open Go.Proofs.YtcnipdbommmkmaaAl
/-! ### laws_caInts: function 76 -/
def laws_caInts.l0 : Nat → List Int → List Int → Int → Option (Bool)
  | 0, _, _, _ => none
  | k + 1, x0, x1, x5 => if x5 < (x0.length : Int) then (if 0 ≤ x5 then (if x5 < (x1.length : Int) then (if (rd x0 x5) = (rd x1 x5) then (laws_caInts.l0 k x0 x1 (wrap64 (x5 + 1))) else (some false)) else (none)) else (none)) else (some true)
def laws_caInts.f (k : Nat) (l0 : List Int) (l1 : List Int) : Option (Bool) := if (l0.length : Int) = (l1.length : Int) then (laws_caInts.l0 k l0 l1 0) else (some false)
theorem laws_caInts.mono_l : ∀ k, (∀ y0 y1 y2, LeO (laws_caInts.l0 k y0 y1 y2) (laws_caInts.l0 (k + 1) y0 y1 y2))
  | 0 => fun _ _ _ r h => by simp [laws_caInts.l0] at h
  | k + 1 => by
    have ih0 := laws_caInts.mono_l k
    · intro y0 y1 y2
      unfold laws_caInts.l0
      repeat' first
      | (with_reducible exact ih0 _ _ _)
      | (with_reducible exact LeO.refl _)
      | (with_reducible exact LeO.none _)
      | (with_reducible refine LeO.ite ?_ ?_)
      | (with_reducible refine LeO.bind ?_ (fun _ => ?_))
      | exact ih0 _ _ _
      | exact LeO.none _
      | refine LeO.ite ?_ ?_
      | refine LeO.bind ?_ (fun _ => ?_)
theorem laws_caInts.mono : ∀ a0 a1 k, LeO (laws_caInts.f k a0 a1) (laws_caInts.f (k + 1) a0 a1) := by
  intro a0 a1 k
  have ih0 := laws_caInts.mono_l k
  unfold laws_caInts.f
  repeat' first
      | (with_reducible exact ih0 _ _ _)
      | (with_reducible exact LeO.refl _)
      | (with_reducible exact LeO.none _)
      | (with_reducible refine LeO.ite ?_ ?_)
      | (with_reducible refine LeO.bind ?_ (fun _ => ?_))
      | exact ih0 _ _ _
      | exact LeO.none _
      | refine LeO.ite ?_ ?_
      | refine LeO.bind ?_ (fun _ => ?_)
set_option maxHeartbeats 8000000 in
set_option maxRecDepth 100000 in
theorem laws_caInts.calls (k : Nat) (A0 : Option Addr) (c0 : Nat) (l0 : List Int) (A1 : Option Addr) (c1 : Nat) (l1 : List Int) (r : Bool) (w : World) (hr0 : Kd.C (Kd.int .i64) w A0 l0.length l0) (hc0 : l0.length ≤ c0) (hr1 : Kd.C (Kd.int .i64) w A1 l1.length l1) (hc1 : l1.length ≤ c1) (h : laws_caInts.f k l0 l1 = some r) :
    Calls Try.prog 76 #[.slice A0 l0.length c0, .slice A1 l1.length c1] w fun e w' => e = .returned (.bool r) ∧ Drawn0 w w' := by
  have HR0 := qM hr0
  have HC0 := qM hc0
  clear hr0 hc0
  have HR1 := qM hr1
  have HC1 := qM hc1
  clear hr1 hc1
  have H : (if (l0.length : Int) = (l1.length : Int) then (laws_caInts.l0 k l0 l1 0) else (some false)) = some r := h
  clear h
  by_cases c3 : (l0.length : Int) = (l1.length : Int)
  · rw [if_pos c3] at H
    have c3b0 : ((l0.length : Int) == (l1.length : Int)) = true := beq_iff_eq.mpr c3
    have c3b1 : ((l0.length : Int) != (l1.length : Int)) = false := bne_eq_false_iff_eq.mpr c3
    have c3b2 : (l0.length == l1.length) = true := by first | simpa using c3 | (simp at c3 ⊢; omega)
    clear c3
    have H' := qM H
    clear H
    go_enter Try.func76, Try.ntmps76
    go_wp2
    repeat (go_quiet (fail); try go_wp2)
    go_loopg [5] k (fun kq v5 w' => ∃ (x5_1 : Int), v5 = .int .i64 x5_1 ∧ Aside0 (laws_caInts.l0 kq l0 l1 x5_1 = some r) ∧ Aside0 (kq ≤ k) ∧ Drawn0 w w')
    case atStart => exact ⟨(0), (by first | rfl | (simp; done) | (simp [*]; done)), H', ⟨Nat.le_refl _⟩, by repeat (first | exact Drawn0.refl _ | apply Drawn0.step)⟩
    case round =>
      clear H'
      try clear c1
      try clear p2
      try clear c3
      try clear c3b0
      try clear c3b1
      try clear c3b2
      obtain ⟨x5_1, rfl, HA, HK1, ⟨m1, rfl⟩⟩ := hrel
      cases gk with
      | zero => exact absurd HA.out (by simp [laws_caInts.l0])
      | succ k1 =>
        have H := HA.out
        clear HA
        simp only [laws_caInts.l0] at H
        by_cases c4 : x5_1 < (l0.length : Int)
        · rw [if_pos c4] at H
          have c4b0 : decide (x5_1 < (l0.length : Int)) = true := decide_eq_true c4
          clear c4
          by_cases c5 : 0 ≤ x5_1
          · rw [if_pos c5] at H
            have c5b0 : decide (0 ≤ x5_1) = true := decide_eq_true c5
            clear c5
            by_cases c6 : x5_1 < (l1.length : Int)
            · rw [if_pos c6] at H
              have c6b0 : decide (x5_1 < (l1.length : Int)) = true := decide_eq_true c6
              clear c6
              by_cases c7 : (rd l0 x5_1) = (rd l1 x5_1)
              · rw [if_pos c7] at H
                have c7b0 : ((rd l0 x5_1) == (rd l1 x5_1)) = true := beq_iff_eq.mpr c7
                have c7b1 : ((rd l0 x5_1) != (rd l1 x5_1)) = false := bne_eq_false_iff_eq.mpr c7
                clear c7
                have H' := qM H
                clear H
                have p347 : 0 ≤ (x5_1 : Int) := of_decide_eq_true (by first | (with_reducible assumption) | assumption)
                have q347 : x5_1 < (l0.length : Int) := of_decide_eq_true (by first | (with_reducible assumption) | assumption)
                obtain ⟨ad347, e347, hx347_0⟩ := Kd.at_int HR0.out x5_1 p347 q347
                cases e347
                replace p347 := eq_true p347
                replace q347 := eq_true q347
                have p348 : 0 ≤ (x5_1 : Int) := of_decide_eq_true (by first | (with_reducible assumption) | assumption)
                have q348 : x5_1 < (l1.length : Int) := of_decide_eq_true (by first | (with_reducible assumption) | assumption)
                obtain ⟨ad348, e348, hx348_0⟩ := Kd.at_int HR1.out x5_1 p348 q348
                cases e348
                replace p348 := eq_true p348
                replace q348 := eq_true q348
                go_wp2
                repeat (go_quiet (fail); try go_wp2)
                go_roundg k1
                case measure => have := HK1.out; omega
                case rel => exact ⟨(wrap64 (x5_1 + 1)), (by first | rfl | (simp; done) | (simp [*]; done)), H', ⟨by have := HK1.out; omega⟩, by repeat (first | exact Drawn0.refl _ | apply Drawn0.step)⟩
              · rw [if_neg c7] at H
                have c7b0 : ((rd l0 x5_1) == (rd l1 x5_1)) = false := beq_eq_false_iff_ne.mpr c7
                have c7b1 : ((rd l0 x5_1) != (rd l1 x5_1)) = true := bne_iff_ne.mpr c7
                obtain rfl := Option.some.inj H
                have p347 : 0 ≤ (x5_1 : Int) := of_decide_eq_true (by first | (with_reducible assumption) | assumption)
                have q347 : x5_1 < (l0.length : Int) := of_decide_eq_true (by first | (with_reducible assumption) | assumption)
                obtain ⟨ad347, e347, hx347_0⟩ := Kd.at_int HR0.out x5_1 p347 q347
                cases e347
                replace p347 := eq_true p347
                replace q347 := eq_true q347
                have p348 : 0 ≤ (x5_1 : Int) := of_decide_eq_true (by first | (with_reducible assumption) | assumption)
                have q348 : x5_1 < (l1.length : Int) := of_decide_eq_true (by first | (with_reducible assumption) | assumption)
                obtain ⟨ad348, e348, hx348_0⟩ := Kd.at_int HR1.out x5_1 p348 q348
                cases e348
                replace p348 := eq_true p348
                replace q348 := eq_true q348
                go_wp2
                repeat (go_quiet (fail); try go_wp2)
                go_ret
                exact ⟨by first | rfl | (simp; done) | (simp [*]; done), by repeat (first | exact Drawn0.refl _ | apply Drawn0.step)⟩
            · rw [if_neg c6] at H
              exact absurd H (by simp)
          · rw [if_neg c5] at H
            exact absurd H (by simp)
        · rw [if_neg c4] at H
          have c4b0 : decide (x5_1 < (l0.length : Int)) = false := decide_eq_false c4
          clear c4
          obtain rfl := Option.some.inj H
          go_wp2
          repeat (go_quiet (fail); try go_wp2)
          go_ret
          exact ⟨by first | rfl | (simp; done) | (simp [*]; done), by repeat (first | exact Drawn0.refl _ | apply Drawn0.step)⟩
  · rw [if_neg c3] at H
    have c3b0 : ((l0.length : Int) == (l1.length : Int)) = false := beq_eq_false_iff_ne.mpr c3
    have c3b1 : ((l0.length : Int) != (l1.length : Int)) = true := bne_iff_ne.mpr c3
    have c3b2 : (l0.length == l1.length) = false := by first | simpa using c3 | (simp at c3 ⊢; omega)
    obtain rfl := Option.some.inj H
    go_enter Try.func76, Try.ntmps76
    go_wp2
    repeat (go_quiet (fail); try go_wp2)
    go_ret
    exact ⟨by first | rfl | (simp; done) | (simp [*]; done), by repeat (first | exact Drawn0.refl _ | apply Drawn0.step)⟩

open Go.Proofs.YtcnipdbommmkmaaAl
/-! ### laws_caState: function 42 -/
def laws_caState.f (k : Nat) (a0_0 : Int) (l0_1 : List Int) (l0_2 : List Int) (a0_3 : Int) (a1_0 : Int) (l1_1 : List Int) (l1_2 : List Int) (a1_3 : Int) : Option (Bool) := if a0_0 = a1_0 then (if a0_3 = a1_3 then ((laws_caInts.f k l0_1 l1_1).bind fun t351 => (if t351 = true then ((laws_caInts.f k l0_2 l1_2).bind fun t352 => (some t352)) else (some false))) else (some false)) else (some false)
theorem laws_caState.mono : ∀ a0 a1 a2 a3 a4 a5 a6 a7 k, LeO (laws_caState.f k a0 a1 a2 a3 a4 a5 a6 a7) (laws_caState.f (k + 1) a0 a1 a2 a3 a4 a5 a6 a7) := by
  intro a0 a1 a2 a3 a4 a5 a6 a7 k
  unfold laws_caState.f
  repeat' first
      | (with_reducible exact laws_caInts.mono _ _ _)
      | (with_reducible exact LeO.refl _)
      | (with_reducible exact LeO.none _)
      | (with_reducible refine LeO.ite ?_ ?_)
      | (with_reducible refine LeO.bind ?_ (fun _ => ?_))
      | exact laws_caInts.mono _ _ _
      | exact LeO.none _
      | refine LeO.ite ?_ ?_
      | refine LeO.bind ?_ (fun _ => ?_)
set_option maxHeartbeats 8000000 in
set_option maxRecDepth 100000 in
theorem laws_caState.calls (k : Nat) (a0_0 : Int) (A0_1 : Option Addr) (c0_1 : Nat) (l0_1 : List Int) (A0_2 : Option Addr) (c0_2 : Nat) (l0_2 : List Int) (a0_3 : Int) (a1_0 : Int) (A1_1 : Option Addr) (c1_1 : Nat) (l1_1 : List Int) (A1_2 : Option Addr) (c1_2 : Nat) (l1_2 : List Int) (a1_3 : Int) (r : Bool) (w : World) (hr0_1 : Kd.C (Kd.int .i64) w A0_1 l0_1.length l0_1) (hc0_1 : l0_1.length ≤ c0_1) (hr0_2 : Kd.C (Kd.int .i64) w A0_2 l0_2.length l0_2) (hc0_2 : l0_2.length ≤ c0_2) (hr1_1 : Kd.C (Kd.int .i64) w A1_1 l1_1.length l1_1) (hc1_1 : l1_1.length ≤ c1_1) (hr1_2 : Kd.C (Kd.int .i64) w A1_2 l1_2.length l1_2) (hc1_2 : l1_2.length ≤ c1_2) (h : laws_caState.f k a0_0 l0_1 l0_2 a0_3 a1_0 l1_1 l1_2 a1_3 = some r) :
    Calls Try.prog 42 #[.agg #[.int .i64 a0_0, .slice A0_1 l0_1.length c0_1, .slice A0_2 l0_2.length c0_2, .int .i64 a0_3], .agg #[.int .i64 a1_0, .slice A1_1 l1_1.length c1_1, .slice A1_2 l1_2.length c1_2, .int .i64 a1_3]] w fun e w' => e = .returned (.bool r) ∧ Below w.heap.size w w' := by
  have hu30 := Try.underlying30
  have HR0_1 := qM hr0_1
  have HC0_1 := qM hc0_1
  clear hr0_1 hc0_1
  have HR0_2 := qM hr0_2
  have HC0_2 := qM hc0_2
  clear hr0_2 hc0_2
  have HR1_1 := qM hr1_1
  have HC1_1 := qM hc1_1
  clear hr1_1 hc1_1
  have HR1_2 := qM hr1_2
  have HC1_2 := qM hc1_2
  clear hr1_2 hc1_2
  have HB := qM (Below.refl w.heap.size w)
  have H : (if a0_0 = a1_0 then (if a0_3 = a1_3 then ((laws_caInts.f k l0_1 l1_1).bind fun t351 => (if t351 = true then ((laws_caInts.f k l0_2 l1_2).bind fun t352 => (some t352)) else (some false))) else (some false)) else (some false)) = some r := h
  clear h
  by_cases c3 : a0_0 = a1_0
  · rw [if_pos c3] at H
    have c3b0 : (a0_0 == a1_0) = true := beq_iff_eq.mpr c3
    have c3b1 : (a0_0 != a1_0) = false := bne_eq_false_iff_eq.mpr c3
    clear c3
    by_cases c4 : a0_3 = a1_3
    · rw [if_pos c4] at H
      have c4b0 : (a0_3 == a1_3) = true := beq_iff_eq.mpr c4
      have c4b1 : (a0_3 != a1_3) = false := bne_eq_false_iff_eq.mpr c4
      clear c4
      replace H := Option.bind_eq_some_iff.mp H
      obtain ⟨t351, A50, H⟩ := H
      replace H : (if t351 = true then ((laws_caInts.f k l0_2 l1_2).bind fun t352 => (some t352)) else (some false)) = some r := H
      have A5 := qM A50
      clear A50
      by_cases c6 : t351 = true
      · subst c6
        have H1 : ((laws_caInts.f k l0_2 l1_2).bind fun t352 => (some t352)) = some r := by rw [if_pos rfl] at H; exact H
        clear H
        have H := H1
        clear H1
        replace H := Option.bind_eq_some_iff.mp H
        obtain ⟨t352, A70, H⟩ := H
        replace H : (some t352) = some r := H
        have A7 := qM A70
        clear A70
        obtain rfl := Option.some.inj H
        go_enter Try.func42, Try.ntmps42
        go_wp2_with (first | ((with_reducible refine gate_dst (N := 2) rfl ?_); refine box_event ?hg (N := 2) ?hd (cs := #[.int .i64 a0_0, .slice A0_1 l0_1.length c0_1, .slice A0_2 l0_2.length c0_2, .int .i64 a0_3]) (t := 30) ?hr ?_; (case hd => rfl); (case hg => rfl); (case hr => first | (go_simp; done) | (go_simp; rfl)); intro gb349 hg w8 hbox hb; have n0_ := qM (below_step (by repeat (first | (with_reducible first | exact HB.out | apply yA | apply yN | apply yD) | exact HB.out)) hb); have n1_ := qM (hbox); have n2_ := qM ((by rw [hg]; exact (below_size (by repeat (first | (with_reducible first | exact HB.out | apply yA | apply yN | apply yD) | exact HB.out))) : w.heap.size ≤ gb349)); have n3_ := qM ((by rw [hg]; exact (below_size (by repeat (first | (with_reducible first | exact HB.out | apply yA | apply yN | apply yD) | exact HB.out))) : w.heap.size ≤ gb349)); clear HB; have HB := n0_; have BK349 := n1_; have GW349 := n2_; have GE349 := n3_; clear n0_ n1_ n2_ n3_; clear hb hbox hg) | ((with_reducible refine gate_dst (N := 3) rfl ?_); refine box_event ?hg (N := 3) ?hd (cs := #[.int .i64 a1_0, .slice A1_1 l1_1.length c1_1, .slice A1_2 l1_2.length c1_2, .int .i64 a1_3]) (t := 30) ?hr ?_; (case hd => rfl); (case hg => rfl); (case hr => first | (go_simp; done) | (go_simp; rfl)); intro gb350 hg w9 hbox hb; have n0_ := qM (blk_below (g := gb349) (o := .cells #[.int .i64 a0_0, .slice A0_1 l0_1.length c0_1, .slice A0_2 l0_2.length c0_2, .int .i64 a0_3] 30 (0, 0)) (by (with_reducible repeat (first | refine zN ?_ _ | refine zD ?_ | refine zA ?_ _)); exact BK349.out) hb); have n1_ := qM (below_step (by repeat (first | (with_reducible first | exact HB.out | apply yA | apply yN | apply yD | refine yS ?_ GE349.out) | exact HB.out)) hb); have n2_ := qM (hbox); have n3_ := qM ((by rw [hg]; exact (below_size (by repeat (first | (with_reducible first | exact HB.out | apply yA | apply yN | apply yD | refine yS ?_ GE349.out) | exact HB.out))) : w.heap.size ≤ gb350)); have n4_ := qM ((by rw [hg]; exact (below_size (by repeat (first | (with_reducible first | exact HB.out | apply yA | apply yN | apply yD | refine yS ?_ GE349.out) | exact HB.out))) : w.heap.size ≤ gb350)); have n5_ := qM ((by rw [hg]; exact Nat.ne_of_lt (blk_lt (g := gb349) (o := .cells #[.int .i64 a0_0, .slice A0_1 l0_1.length c0_1, .slice A0_2 l0_2.length c0_2, .int .i64 a0_3] 30 (0, 0)) (by (with_reducible repeat (first | refine zN ?_ _ | refine zD ?_ | refine zA ?_ _)); exact BK349.out)) : gb349 ≠ gb350)); have n6_ := qM ((by rw [hg]; exact Nat.ne_of_gt (blk_lt (g := gb349) (o := .cells #[.int .i64 a0_0, .slice A0_1 l0_1.length c0_1, .slice A0_2 l0_2.length c0_2, .int .i64 a0_3] 30 (0, 0)) (by (with_reducible repeat (first | refine zN ?_ _ | refine zD ?_ | refine zA ?_ _)); exact BK349.out)) : gb350 ≠ gb349)); clear BK349; clear HB; have BK349 := n0_; have HB := n1_; have BK350 := n2_; have GW350 := n3_; have GE350 := n4_; have NB349_350 := n5_; have NB350_349 := n6_; clear n0_ n1_ n2_ n3_ n4_ n5_ n6_; clear hb hbox hg; have hnb10 := NB349_350.out; have hnc10 := NB350_349.out; have hcz11_0 : w9.cell? ⟨gb349, 0, none⟩ = some (.int .i64 a0_0) := (zC BK349.out 0).trans rfl; have hcz11_1 : w9.cell? ⟨gb349, 1, none⟩ = some (.slice A0_1 l0_1.length c0_1) := (zC BK349.out 1).trans rfl; have hcz11_2 : w9.cell? ⟨gb349, 2, none⟩ = some (.slice A0_2 l0_2.length c0_2) := (zC BK349.out 2).trans rfl; have hcz11_3 : w9.cell? ⟨gb349, 3, none⟩ = some (.int .i64 a0_3) := (zC BK349.out 3).trans rfl; have hfz11_0 := zF BK349.out 0; have hfz11_1 := zF BK349.out 1; have hfz11_2 := zF BK349.out 2; have hfz11_3 := zF BK349.out 3; have hcz12_0 : w9.cell? ⟨gb350, 0, none⟩ = some (.int .i64 a1_0) := (zC BK350.out 0).trans rfl; have hcz12_1 : w9.cell? ⟨gb350, 1, none⟩ = some (.slice A1_1 l1_1.length c1_1) := (zC BK350.out 1).trans rfl; have hcz12_2 : w9.cell? ⟨gb350, 2, none⟩ = some (.slice A1_2 l1_2.length c1_2) := (zC BK350.out 2).trans rfl; have hcz12_3 : w9.cell? ⟨gb350, 3, none⟩ = some (.int .i64 a1_3) := (zC BK350.out 3).trans rfl; have hfz12_0 := zF BK350.out 0; have hfz12_1 := zF BK350.out 1; have hfz12_2 := zF BK350.out 2; have hfz12_3 := zF BK350.out 3) | (go_at_call 76; (with_reducible refine (laws_caInts.calls k _ _ l0_1 _ _ l1_1 true _ ?side1 ?side2 ?side3 ?side4 A5.out).mono ?_); (case side1 => repeat (first | exact (Kd.C_below HR0_1.out HB.out) | (with_reducible refine Kd.C_alloc ?_ _) | (with_reducible refine Kd.C_drewN ?_ _) | (with_reducible refine Kd.C_drew ?_))); (case side2 => exact HC0_1.out); (case side3 => repeat (first | exact (Kd.C_below HR1_1.out HB.out) | (with_reducible refine Kd.C_alloc ?_ _) | (with_reducible refine Kd.C_drewN ?_ _) | (with_reducible refine Kd.C_drew ?_))); (case side4 => exact HC1_1.out); rintro e w' ⟨rfl, ⟨nd, rfl⟩⟩) | (go_at_call 76; (with_reducible refine (laws_caInts.calls k _ _ l0_2 _ _ l1_2 t352 _ ?side1 ?side2 ?side3 ?side4 A7.out).mono ?_); (case side1 => repeat (first | exact (Kd.C_below HR0_2.out (by repeat (first | (with_reducible first | exact HB.out | apply yA | apply yN | apply yD | refine yS ?_ GE349.out | refine yS ?_ GE350.out) | exact HB.out))) | (with_reducible refine Kd.C_alloc ?_ _) | (with_reducible refine Kd.C_drewN ?_ _) | (with_reducible refine Kd.C_drew ?_))); (case side2 => exact HC0_2.out); (case side3 => repeat (first | exact (Kd.C_below HR1_2.out (by repeat (first | (with_reducible first | exact HB.out | apply yA | apply yN | apply yD | refine yS ?_ GE349.out | refine yS ?_ GE350.out) | exact HB.out))) | (with_reducible refine Kd.C_alloc ?_ _) | (with_reducible refine Kd.C_drewN ?_ _) | (with_reducible refine Kd.C_drew ?_))); (case side4 => exact HC1_2.out); rintro e w' ⟨rfl, ⟨nd, rfl⟩⟩))
        go_ret
        exact ⟨by first | rfl | (simp [errW_none, errW_some] <;> rfl) | (simp [*, errW_none, errW_some] <;> rfl), by repeat (first | (with_reducible first | exact HB.out | apply yA | apply yN | apply yD | refine yS ?_ GE349.out | refine yS ?_ GE350.out) | exact HB.out)⟩
      · replace c6 := Bool.eq_false_iff.mpr c6
        subst c6
        have H1 : (some false) = some r := by rw [if_neg (show ¬ (false = true) by decide)] at H; exact H
        clear H
        have H := H1
        clear H1
        obtain rfl := Option.some.inj H
        go_enter Try.func42, Try.ntmps42
        go_wp2_with (first | ((with_reducible refine gate_dst (N := 2) rfl ?_); refine box_event ?hg (N := 2) ?hd (cs := #[.int .i64 a0_0, .slice A0_1 l0_1.length c0_1, .slice A0_2 l0_2.length c0_2, .int .i64 a0_3]) (t := 30) ?hr ?_; (case hd => rfl); (case hg => rfl); (case hr => first | (go_simp; done) | (go_simp; rfl)); intro gb349 hg w13 hbox hb; have n0_ := qM (below_step (by repeat (first | (with_reducible first | exact HB.out | apply yA | apply yN | apply yD) | exact HB.out)) hb); have n1_ := qM (hbox); have n2_ := qM ((by rw [hg]; exact (below_size (by repeat (first | (with_reducible first | exact HB.out | apply yA | apply yN | apply yD) | exact HB.out))) : w.heap.size ≤ gb349)); have n3_ := qM ((by rw [hg]; exact (below_size (by repeat (first | (with_reducible first | exact HB.out | apply yA | apply yN | apply yD) | exact HB.out))) : w.heap.size ≤ gb349)); clear HB; have HB := n0_; have BK349 := n1_; have GW349 := n2_; have GE349 := n3_; clear n0_ n1_ n2_ n3_; clear hb hbox hg) | ((with_reducible refine gate_dst (N := 3) rfl ?_); refine box_event ?hg (N := 3) ?hd (cs := #[.int .i64 a1_0, .slice A1_1 l1_1.length c1_1, .slice A1_2 l1_2.length c1_2, .int .i64 a1_3]) (t := 30) ?hr ?_; (case hd => rfl); (case hg => rfl); (case hr => first | (go_simp; done) | (go_simp; rfl)); intro gb350 hg w14 hbox hb; have n0_ := qM (blk_below (g := gb349) (o := .cells #[.int .i64 a0_0, .slice A0_1 l0_1.length c0_1, .slice A0_2 l0_2.length c0_2, .int .i64 a0_3] 30 (0, 0)) (by (with_reducible repeat (first | refine zN ?_ _ | refine zD ?_ | refine zA ?_ _)); exact BK349.out) hb); have n1_ := qM (below_step (by repeat (first | (with_reducible first | exact HB.out | apply yA | apply yN | apply yD | refine yS ?_ GE349.out) | exact HB.out)) hb); have n2_ := qM (hbox); have n3_ := qM ((by rw [hg]; exact (below_size (by repeat (first | (with_reducible first | exact HB.out | apply yA | apply yN | apply yD | refine yS ?_ GE349.out) | exact HB.out))) : w.heap.size ≤ gb350)); have n4_ := qM ((by rw [hg]; exact (below_size (by repeat (first | (with_reducible first | exact HB.out | apply yA | apply yN | apply yD | refine yS ?_ GE349.out) | exact HB.out))) : w.heap.size ≤ gb350)); have n5_ := qM ((by rw [hg]; exact Nat.ne_of_lt (blk_lt (g := gb349) (o := .cells #[.int .i64 a0_0, .slice A0_1 l0_1.length c0_1, .slice A0_2 l0_2.length c0_2, .int .i64 a0_3] 30 (0, 0)) (by (with_reducible repeat (first | refine zN ?_ _ | refine zD ?_ | refine zA ?_ _)); exact BK349.out)) : gb349 ≠ gb350)); have n6_ := qM ((by rw [hg]; exact Nat.ne_of_gt (blk_lt (g := gb349) (o := .cells #[.int .i64 a0_0, .slice A0_1 l0_1.length c0_1, .slice A0_2 l0_2.length c0_2, .int .i64 a0_3] 30 (0, 0)) (by (with_reducible repeat (first | refine zN ?_ _ | refine zD ?_ | refine zA ?_ _)); exact BK349.out)) : gb350 ≠ gb349)); clear BK349; clear HB; have BK349 := n0_; have HB := n1_; have BK350 := n2_; have GW350 := n3_; have GE350 := n4_; have NB349_350 := n5_; have NB350_349 := n6_; clear n0_ n1_ n2_ n3_ n4_ n5_ n6_; clear hb hbox hg; have hnb15 := NB349_350.out; have hnc15 := NB350_349.out; have hcz16_0 : w14.cell? ⟨gb349, 0, none⟩ = some (.int .i64 a0_0) := (zC BK349.out 0).trans rfl; have hcz16_1 : w14.cell? ⟨gb349, 1, none⟩ = some (.slice A0_1 l0_1.length c0_1) := (zC BK349.out 1).trans rfl; have hcz16_2 : w14.cell? ⟨gb349, 2, none⟩ = some (.slice A0_2 l0_2.length c0_2) := (zC BK349.out 2).trans rfl; have hcz16_3 : w14.cell? ⟨gb349, 3, none⟩ = some (.int .i64 a0_3) := (zC BK349.out 3).trans rfl; have hfz16_0 := zF BK349.out 0; have hfz16_1 := zF BK349.out 1; have hfz16_2 := zF BK349.out 2; have hfz16_3 := zF BK349.out 3; have hcz17_0 : w14.cell? ⟨gb350, 0, none⟩ = some (.int .i64 a1_0) := (zC BK350.out 0).trans rfl; have hcz17_1 : w14.cell? ⟨gb350, 1, none⟩ = some (.slice A1_1 l1_1.length c1_1) := (zC BK350.out 1).trans rfl; have hcz17_2 : w14.cell? ⟨gb350, 2, none⟩ = some (.slice A1_2 l1_2.length c1_2) := (zC BK350.out 2).trans rfl; have hcz17_3 : w14.cell? ⟨gb350, 3, none⟩ = some (.int .i64 a1_3) := (zC BK350.out 3).trans rfl; have hfz17_0 := zF BK350.out 0; have hfz17_1 := zF BK350.out 1; have hfz17_2 := zF BK350.out 2; have hfz17_3 := zF BK350.out 3) | (go_at_call 76; (with_reducible refine (laws_caInts.calls k _ _ l0_1 _ _ l1_1 false _ ?side1 ?side2 ?side3 ?side4 A5.out).mono ?_); (case side1 => repeat (first | exact (Kd.C_below HR0_1.out HB.out) | (with_reducible refine Kd.C_alloc ?_ _) | (with_reducible refine Kd.C_drewN ?_ _) | (with_reducible refine Kd.C_drew ?_))); (case side2 => exact HC0_1.out); (case side3 => repeat (first | exact (Kd.C_below HR1_1.out HB.out) | (with_reducible refine Kd.C_alloc ?_ _) | (with_reducible refine Kd.C_drewN ?_ _) | (with_reducible refine Kd.C_drew ?_))); (case side4 => exact HC1_1.out); rintro e w' ⟨rfl, ⟨nd, rfl⟩⟩))
        go_ret
        exact ⟨by first | rfl | (simp [errW_none, errW_some] <;> rfl) | (simp [*, errW_none, errW_some] <;> rfl), by repeat (first | (with_reducible first | exact HB.out | apply yA | apply yN | apply yD | refine yS ?_ GE349.out | refine yS ?_ GE350.out) | exact HB.out)⟩
    · rw [if_neg c4] at H
      have c4b0 : (a0_3 == a1_3) = false := beq_eq_false_iff_ne.mpr c4
      have c4b1 : (a0_3 != a1_3) = true := bne_iff_ne.mpr c4
      obtain rfl := Option.some.inj H
      go_enter Try.func42, Try.ntmps42
      go_wp2_with (first | ((with_reducible refine gate_dst (N := 2) rfl ?_); refine box_event ?hg (N := 2) ?hd (cs := #[.int .i64 a0_0, .slice A0_1 l0_1.length c0_1, .slice A0_2 l0_2.length c0_2, .int .i64 a0_3]) (t := 30) ?hr ?_; (case hd => rfl); (case hg => rfl); (case hr => first | (go_simp; done) | (go_simp; rfl)); intro gb349 hg w18 hbox hb; have n0_ := qM (below_step (by repeat (first | (with_reducible first | exact HB.out | apply yA | apply yN | apply yD) | exact HB.out)) hb); have n1_ := qM (hbox); have n2_ := qM ((by rw [hg]; exact (below_size (by repeat (first | (with_reducible first | exact HB.out | apply yA | apply yN | apply yD) | exact HB.out))) : w.heap.size ≤ gb349)); have n3_ := qM ((by rw [hg]; exact (below_size (by repeat (first | (with_reducible first | exact HB.out | apply yA | apply yN | apply yD) | exact HB.out))) : w.heap.size ≤ gb349)); clear HB; have HB := n0_; have BK349 := n1_; have GW349 := n2_; have GE349 := n3_; clear n0_ n1_ n2_ n3_; clear hb hbox hg) | ((with_reducible refine gate_dst (N := 3) rfl ?_); refine box_event ?hg (N := 3) ?hd (cs := #[.int .i64 a1_0, .slice A1_1 l1_1.length c1_1, .slice A1_2 l1_2.length c1_2, .int .i64 a1_3]) (t := 30) ?hr ?_; (case hd => rfl); (case hg => rfl); (case hr => first | (go_simp; done) | (go_simp; rfl)); intro gb350 hg w19 hbox hb; have n0_ := qM (blk_below (g := gb349) (o := .cells #[.int .i64 a0_0, .slice A0_1 l0_1.length c0_1, .slice A0_2 l0_2.length c0_2, .int .i64 a0_3] 30 (0, 0)) (by (with_reducible repeat (first | refine zN ?_ _ | refine zD ?_ | refine zA ?_ _)); exact BK349.out) hb); have n1_ := qM (below_step (by repeat (first | (with_reducible first | exact HB.out | apply yA | apply yN | apply yD | refine yS ?_ GE349.out) | exact HB.out)) hb); have n2_ := qM (hbox); have n3_ := qM ((by rw [hg]; exact (below_size (by repeat (first | (with_reducible first | exact HB.out | apply yA | apply yN | apply yD | refine yS ?_ GE349.out) | exact HB.out))) : w.heap.size ≤ gb350)); have n4_ := qM ((by rw [hg]; exact (below_size (by repeat (first | (with_reducible first | exact HB.out | apply yA | apply yN | apply yD | refine yS ?_ GE349.out) | exact HB.out))) : w.heap.size ≤ gb350)); have n5_ := qM ((by rw [hg]; exact Nat.ne_of_lt (blk_lt (g := gb349) (o := .cells #[.int .i64 a0_0, .slice A0_1 l0_1.length c0_1, .slice A0_2 l0_2.length c0_2, .int .i64 a0_3] 30 (0, 0)) (by (with_reducible repeat (first | refine zN ?_ _ | refine zD ?_ | refine zA ?_ _)); exact BK349.out)) : gb349 ≠ gb350)); have n6_ := qM ((by rw [hg]; exact Nat.ne_of_gt (blk_lt (g := gb349) (o := .cells #[.int .i64 a0_0, .slice A0_1 l0_1.length c0_1, .slice A0_2 l0_2.length c0_2, .int .i64 a0_3] 30 (0, 0)) (by (with_reducible repeat (first | refine zN ?_ _ | refine zD ?_ | refine zA ?_ _)); exact BK349.out)) : gb350 ≠ gb349)); clear BK349; clear HB; have BK349 := n0_; have HB := n1_; have BK350 := n2_; have GW350 := n3_; have GE350 := n4_; have NB349_350 := n5_; have NB350_349 := n6_; clear n0_ n1_ n2_ n3_ n4_ n5_ n6_; clear hb hbox hg; have hnb20 := NB349_350.out; have hnc20 := NB350_349.out; have hcz21_0 : w19.cell? ⟨gb349, 0, none⟩ = some (.int .i64 a0_0) := (zC BK349.out 0).trans rfl; have hcz21_1 : w19.cell? ⟨gb349, 1, none⟩ = some (.slice A0_1 l0_1.length c0_1) := (zC BK349.out 1).trans rfl; have hcz21_2 : w19.cell? ⟨gb349, 2, none⟩ = some (.slice A0_2 l0_2.length c0_2) := (zC BK349.out 2).trans rfl; have hcz21_3 : w19.cell? ⟨gb349, 3, none⟩ = some (.int .i64 a0_3) := (zC BK349.out 3).trans rfl; have hfz21_0 := zF BK349.out 0; have hfz21_1 := zF BK349.out 1; have hfz21_2 := zF BK349.out 2; have hfz21_3 := zF BK349.out 3; have hcz22_0 : w19.cell? ⟨gb350, 0, none⟩ = some (.int .i64 a1_0) := (zC BK350.out 0).trans rfl; have hcz22_1 : w19.cell? ⟨gb350, 1, none⟩ = some (.slice A1_1 l1_1.length c1_1) := (zC BK350.out 1).trans rfl; have hcz22_2 : w19.cell? ⟨gb350, 2, none⟩ = some (.slice A1_2 l1_2.length c1_2) := (zC BK350.out 2).trans rfl; have hcz22_3 : w19.cell? ⟨gb350, 3, none⟩ = some (.int .i64 a1_3) := (zC BK350.out 3).trans rfl; have hfz22_0 := zF BK350.out 0; have hfz22_1 := zF BK350.out 1; have hfz22_2 := zF BK350.out 2; have hfz22_3 := zF BK350.out 3))
      go_ret
      exact ⟨by first | rfl | (simp [errW_none, errW_some] <;> rfl) | (simp [*, errW_none, errW_some] <;> rfl), by repeat (first | (with_reducible first | exact HB.out | apply yA | apply yN | apply yD | refine yS ?_ GE349.out | refine yS ?_ GE350.out) | exact HB.out)⟩
  · rw [if_neg c3] at H
    have c3b0 : (a0_0 == a1_0) = false := beq_eq_false_iff_ne.mpr c3
    have c3b1 : (a0_0 != a1_0) = true := bne_iff_ne.mpr c3
    obtain rfl := Option.some.inj H
    go_enter Try.func42, Try.ntmps42
    go_wp2_with (first | ((with_reducible refine gate_dst (N := 2) rfl ?_); refine box_event ?hg (N := 2) ?hd (cs := #[.int .i64 a0_0, .slice A0_1 l0_1.length c0_1, .slice A0_2 l0_2.length c0_2, .int .i64 a0_3]) (t := 30) ?hr ?_; (case hd => rfl); (case hg => rfl); (case hr => first | (go_simp; done) | (go_simp; rfl)); intro gb349 hg w23 hbox hb; have n0_ := qM (below_step (by repeat (first | (with_reducible first | exact HB.out | apply yA | apply yN | apply yD) | exact HB.out)) hb); have n1_ := qM (hbox); have n2_ := qM ((by rw [hg]; exact (below_size (by repeat (first | (with_reducible first | exact HB.out | apply yA | apply yN | apply yD) | exact HB.out))) : w.heap.size ≤ gb349)); have n3_ := qM ((by rw [hg]; exact (below_size (by repeat (first | (with_reducible first | exact HB.out | apply yA | apply yN | apply yD) | exact HB.out))) : w.heap.size ≤ gb349)); clear HB; have HB := n0_; have BK349 := n1_; have GW349 := n2_; have GE349 := n3_; clear n0_ n1_ n2_ n3_; clear hb hbox hg) | ((with_reducible refine gate_dst (N := 3) rfl ?_); refine box_event ?hg (N := 3) ?hd (cs := #[.int .i64 a1_0, .slice A1_1 l1_1.length c1_1, .slice A1_2 l1_2.length c1_2, .int .i64 a1_3]) (t := 30) ?hr ?_; (case hd => rfl); (case hg => rfl); (case hr => first | (go_simp; done) | (go_simp; rfl)); intro gb350 hg w24 hbox hb; have n0_ := qM (blk_below (g := gb349) (o := .cells #[.int .i64 a0_0, .slice A0_1 l0_1.length c0_1, .slice A0_2 l0_2.length c0_2, .int .i64 a0_3] 30 (0, 0)) (by (with_reducible repeat (first | refine zN ?_ _ | refine zD ?_ | refine zA ?_ _)); exact BK349.out) hb); have n1_ := qM (below_step (by repeat (first | (with_reducible first | exact HB.out | apply yA | apply yN | apply yD | refine yS ?_ GE349.out) | exact HB.out)) hb); have n2_ := qM (hbox); have n3_ := qM ((by rw [hg]; exact (below_size (by repeat (first | (with_reducible first | exact HB.out | apply yA | apply yN | apply yD | refine yS ?_ GE349.out) | exact HB.out))) : w.heap.size ≤ gb350)); have n4_ := qM ((by rw [hg]; exact (below_size (by repeat (first | (with_reducible first | exact HB.out | apply yA | apply yN | apply yD | refine yS ?_ GE349.out) | exact HB.out))) : w.heap.size ≤ gb350)); have n5_ := qM ((by rw [hg]; exact Nat.ne_of_lt (blk_lt (g := gb349) (o := .cells #[.int .i64 a0_0, .slice A0_1 l0_1.length c0_1, .slice A0_2 l0_2.length c0_2, .int .i64 a0_3] 30 (0, 0)) (by (with_reducible repeat (first | refine zN ?_ _ | refine zD ?_ | refine zA ?_ _)); exact BK349.out)) : gb349 ≠ gb350)); have n6_ := qM ((by rw [hg]; exact Nat.ne_of_gt (blk_lt (g := gb349) (o := .cells #[.int .i64 a0_0, .slice A0_1 l0_1.length c0_1, .slice A0_2 l0_2.length c0_2, .int .i64 a0_3] 30 (0, 0)) (by (with_reducible repeat (first | refine zN ?_ _ | refine zD ?_ | refine zA ?_ _)); exact BK349.out)) : gb350 ≠ gb349)); clear BK349; clear HB; have BK349 := n0_; have HB := n1_; have BK350 := n2_; have GW350 := n3_; have GE350 := n4_; have NB349_350 := n5_; have NB350_349 := n6_; clear n0_ n1_ n2_ n3_ n4_ n5_ n6_; clear hb hbox hg; have hnb25 := NB349_350.out; have hnc25 := NB350_349.out; have hcz26_0 : w24.cell? ⟨gb349, 0, none⟩ = some (.int .i64 a0_0) := (zC BK349.out 0).trans rfl; have hcz26_1 : w24.cell? ⟨gb349, 1, none⟩ = some (.slice A0_1 l0_1.length c0_1) := (zC BK349.out 1).trans rfl; have hcz26_2 : w24.cell? ⟨gb349, 2, none⟩ = some (.slice A0_2 l0_2.length c0_2) := (zC BK349.out 2).trans rfl; have hcz26_3 : w24.cell? ⟨gb349, 3, none⟩ = some (.int .i64 a0_3) := (zC BK349.out 3).trans rfl; have hfz26_0 := zF BK349.out 0; have hfz26_1 := zF BK349.out 1; have hfz26_2 := zF BK349.out 2; have hfz26_3 := zF BK349.out 3; have hcz27_0 : w24.cell? ⟨gb350, 0, none⟩ = some (.int .i64 a1_0) := (zC BK350.out 0).trans rfl; have hcz27_1 : w24.cell? ⟨gb350, 1, none⟩ = some (.slice A1_1 l1_1.length c1_1) := (zC BK350.out 1).trans rfl; have hcz27_2 : w24.cell? ⟨gb350, 2, none⟩ = some (.slice A1_2 l1_2.length c1_2) := (zC BK350.out 2).trans rfl; have hcz27_3 : w24.cell? ⟨gb350, 3, none⟩ = some (.int .i64 a1_3) := (zC BK350.out 3).trans rfl; have hfz27_0 := zF BK350.out 0; have hfz27_1 := zF BK350.out 1; have hfz27_2 := zF BK350.out 2; have hfz27_3 := zF BK350.out 3))
    go_ret
    exact ⟨by first | rfl | (simp [errW_none, errW_some] <;> rfl) | (simp [*, errW_none, errW_some] <;> rfl), by repeat (first | (with_reducible first | exact HB.out | apply yA | apply yN | apply yD | refine yS ?_ GE349.out | refine yS ?_ GE350.out) | exact HB.out)⟩

open Go.Proofs.YtcnipdbommmkmaaAl
/-! ### laws_caBytes: function 43 -/
def laws_caBytes.f (l0 : List Int) (l1 : List Int) : Option (Bool) := some ((strOfNums l0).toList == (strOfNums l1).toList)
set_option maxHeartbeats 8000000 in
set_option maxRecDepth 100000 in
theorem laws_caBytes.calls (A0 : Option Addr) (c0 : Nat) (l0 : List Int) (A1 : Option Addr) (c1 : Nat) (l1 : List Int) (r : Bool) (w : World) (hr0 : Kd.C (Kd.int .u8) w A0 l0.length l0) (hc0 : l0.length ≤ c0) (hr1 : Kd.C (Kd.int .u8) w A1 l1.length l1) (hc1 : l1.length ≤ c1) (h : laws_caBytes.f l0 l1 = some r) :
    Calls Try.prog 43 #[.slice A0 l0.length c0, .slice A1 l1.length c1] w fun e w' => e = .returned (.bool r) ∧ Drawn0 w w' := by
  have HR0 := qM hr0
  have HC0 := qM hc0
  clear hr0 hc0
  have HR1 := qM hr1
  have HC1 := qM hc1
  clear hr1 hc1
  have H : (some ((strOfNums l0).toList == (strOfNums l1).toList)) = some r := h
  clear h
  obtain rfl := Option.some.inj H
  have hcv3 := Kd.C_string (P := Try.prog) (A := A0) (c := c0) Try.underlying25 Try.underlying5 Try.underlying9 HR0.out
  have hcv4 := Kd.C_string (P := Try.prog) (A := A1) (c := c1) Try.underlying25 Try.underlying5 Try.underlying9 HR1.out
  go_enter Try.func43, Try.ntmps43
  go_wp2
  go_ret
  exact ⟨by first | rfl | (simp; done) | (simp [*]; done), by repeat (first | exact Drawn0.refl _ | apply Drawn0.step)⟩

open Go.Proofs.YtcnipdbommmkmaaAl
/-! ### laws_caCell: function 41 -/
def laws_caCell.f (k : Nat) (a0_0 : Int) (l0_1 : List Int) (l0_2 : List Int) (a0_3 : Int) (l0_4 : List Int) (a1_0 : Int) (l1_1 : List Int) (l1_2 : List Int) (a1_3 : Int) (l1_4 : List Int) : Option (Bool) := (laws_caState.f k a0_0 l0_1 l0_2 a0_3 a1_0 l1_1 l1_2 a1_3).bind fun t355 => (if t355 = true then ((laws_caBytes.f l0_4 l1_4).bind fun t356 => (some t356)) else (some false))
theorem laws_caCell.mono : ∀ a0 a1 a2 a3 a4 a5 a6 a7 a8 a9 k, LeO (laws_caCell.f k a0 a1 a2 a3 a4 a5 a6 a7 a8 a9) (laws_caCell.f (k + 1) a0 a1 a2 a3 a4 a5 a6 a7 a8 a9) := by
  intro a0 a1 a2 a3 a4 a5 a6 a7 a8 a9 k
  unfold laws_caCell.f
  repeat' first
      | (with_reducible exact laws_caState.mono _ _ _ _ _ _ _ _ _)
      | (with_reducible exact LeO.refl _)
      | (with_reducible exact LeO.none _)
      | (with_reducible refine LeO.ite ?_ ?_)
      | (with_reducible refine LeO.bind ?_ (fun _ => ?_))
      | exact laws_caState.mono _ _ _ _ _ _ _ _ _
      | exact LeO.none _
      | refine LeO.ite ?_ ?_
      | refine LeO.bind ?_ (fun _ => ?_)
set_option maxHeartbeats 8000000 in
set_option maxRecDepth 100000 in
theorem laws_caCell.calls (k : Nat) (a0_0 : Int) (A0_1 : Option Addr) (c0_1 : Nat) (l0_1 : List Int) (A0_2 : Option Addr) (c0_2 : Nat) (l0_2 : List Int) (a0_3 : Int) (A0_4 : Option Addr) (c0_4 : Nat) (l0_4 : List Int) (a1_0 : Int) (A1_1 : Option Addr) (c1_1 : Nat) (l1_1 : List Int) (A1_2 : Option Addr) (c1_2 : Nat) (l1_2 : List Int) (a1_3 : Int) (A1_4 : Option Addr) (c1_4 : Nat) (l1_4 : List Int) (r : Bool) (w : World) (hr0_1 : Kd.C (Kd.int .i64) w A0_1 l0_1.length l0_1) (hc0_1 : l0_1.length ≤ c0_1) (hr0_2 : Kd.C (Kd.int .i64) w A0_2 l0_2.length l0_2) (hc0_2 : l0_2.length ≤ c0_2) (hr0_4 : Kd.C (Kd.int .u8) w A0_4 l0_4.length l0_4) (hc0_4 : l0_4.length ≤ c0_4) (hr1_1 : Kd.C (Kd.int .i64) w A1_1 l1_1.length l1_1) (hc1_1 : l1_1.length ≤ c1_1) (hr1_2 : Kd.C (Kd.int .i64) w A1_2 l1_2.length l1_2) (hc1_2 : l1_2.length ≤ c1_2) (hr1_4 : Kd.C (Kd.int .u8) w A1_4 l1_4.length l1_4) (hc1_4 : l1_4.length ≤ c1_4) (h : laws_caCell.f k a0_0 l0_1 l0_2 a0_3 l0_4 a1_0 l1_1 l1_2 a1_3 l1_4 = some r) :
    Calls Try.prog 41 #[.agg #[.int .i64 a0_0, .slice A0_1 l0_1.length c0_1, .slice A0_2 l0_2.length c0_2, .int .i64 a0_3, .slice A0_4 l0_4.length c0_4], .agg #[.int .i64 a1_0, .slice A1_1 l1_1.length c1_1, .slice A1_2 l1_2.length c1_2, .int .i64 a1_3, .slice A1_4 l1_4.length c1_4]] w fun e w' => e = .returned (.bool r) ∧ Below w.heap.size w w' := by
  have hu48 := Try.underlying48
  have hu30 := Try.underlying30
  have HR0_1 := qM hr0_1
  have HC0_1 := qM hc0_1
  clear hr0_1 hc0_1
  have HR0_2 := qM hr0_2
  have HC0_2 := qM hc0_2
  clear hr0_2 hc0_2
  have HR0_4 := qM hr0_4
  have HC0_4 := qM hc0_4
  clear hr0_4 hc0_4
  have HR1_1 := qM hr1_1
  have HC1_1 := qM hc1_1
  clear hr1_1 hc1_1
  have HR1_2 := qM hr1_2
  have HC1_2 := qM hc1_2
  clear hr1_2 hc1_2
  have HR1_4 := qM hr1_4
  have HC1_4 := qM hc1_4
  clear hr1_4 hc1_4
  have HB := qM (Below.refl w.heap.size w)
  have H : ((laws_caState.f k a0_0 l0_1 l0_2 a0_3 a1_0 l1_1 l1_2 a1_3).bind fun t355 => (if t355 = true then ((laws_caBytes.f l0_4 l1_4).bind fun t356 => (some t356)) else (some false))) = some r := h
  clear h
  replace H := Option.bind_eq_some_iff.mp H
  obtain ⟨t355, A30, H⟩ := H
  replace H : (if t355 = true then ((laws_caBytes.f l0_4 l1_4).bind fun t356 => (some t356)) else (some false)) = some r := H
  have A3 := qM A30
  clear A30
  by_cases c4 : t355 = true
  · subst c4
    have H1 : ((laws_caBytes.f l0_4 l1_4).bind fun t356 => (some t356)) = some r := by rw [if_pos rfl] at H; exact H
    clear H
    have H := H1
    clear H1
    replace H := Option.bind_eq_some_iff.mp H
    obtain ⟨t356, A50, H⟩ := H
    replace H : (some t356) = some r := H
    have A5 := qM A50
    clear A50
    obtain rfl := Option.some.inj H
    go_enter Try.func41, Try.ntmps41
    go_wp2_with (first | ((with_reducible refine gate_dst (N := 2) rfl ?_); refine box_event ?hg (N := 2) ?hd (cs := #[.int .i64 a0_0, .slice A0_1 l0_1.length c0_1, .slice A0_2 l0_2.length c0_2, .int .i64 a0_3, .slice A0_4 l0_4.length c0_4]) (t := 48) ?hr ?_; (case hd => rfl); (case hg => rfl); (case hr => first | (go_simp; done) | (go_simp; rfl)); intro gb353 hg w6 hbox hb; have n0_ := qM (below_step (by repeat (first | (with_reducible first | exact HB.out | apply yA | apply yN | apply yD) | exact HB.out)) hb); have n1_ := qM (hbox); have n2_ := qM ((by rw [hg]; exact (below_size (by repeat (first | (with_reducible first | exact HB.out | apply yA | apply yN | apply yD) | exact HB.out))) : w.heap.size ≤ gb353)); have n3_ := qM ((by rw [hg]; exact (below_size (by repeat (first | (with_reducible first | exact HB.out | apply yA | apply yN | apply yD) | exact HB.out))) : w.heap.size ≤ gb353)); clear HB; have HB := n0_; have BK353 := n1_; have GW353 := n2_; have GE353 := n3_; clear n0_ n1_ n2_ n3_; clear hb hbox hg) | ((with_reducible refine gate_dst (N := 3) rfl ?_); refine box_event ?hg (N := 3) ?hd (cs := #[.int .i64 a1_0, .slice A1_1 l1_1.length c1_1, .slice A1_2 l1_2.length c1_2, .int .i64 a1_3, .slice A1_4 l1_4.length c1_4]) (t := 48) ?hr ?_; (case hd => rfl); (case hg => rfl); (case hr => first | (go_simp; done) | (go_simp; rfl)); intro gb354 hg w7 hbox hb; have n0_ := qM (blk_below (g := gb353) (o := .cells #[.int .i64 a0_0, .slice A0_1 l0_1.length c0_1, .slice A0_2 l0_2.length c0_2, .int .i64 a0_3, .slice A0_4 l0_4.length c0_4] 48 (0, 0)) (by (with_reducible repeat (first | refine zN ?_ _ | refine zD ?_ | refine zA ?_ _)); exact BK353.out) hb); have n1_ := qM (below_step (by repeat (first | (with_reducible first | exact HB.out | apply yA | apply yN | apply yD | refine yS ?_ GE353.out) | exact HB.out)) hb); have n2_ := qM (hbox); have n3_ := qM ((by rw [hg]; exact (below_size (by repeat (first | (with_reducible first | exact HB.out | apply yA | apply yN | apply yD | refine yS ?_ GE353.out) | exact HB.out))) : w.heap.size ≤ gb354)); have n4_ := qM ((by rw [hg]; exact (below_size (by repeat (first | (with_reducible first | exact HB.out | apply yA | apply yN | apply yD | refine yS ?_ GE353.out) | exact HB.out))) : w.heap.size ≤ gb354)); have n5_ := qM ((by rw [hg]; exact Nat.ne_of_lt (blk_lt (g := gb353) (o := .cells #[.int .i64 a0_0, .slice A0_1 l0_1.length c0_1, .slice A0_2 l0_2.length c0_2, .int .i64 a0_3, .slice A0_4 l0_4.length c0_4] 48 (0, 0)) (by (with_reducible repeat (first | refine zN ?_ _ | refine zD ?_ | refine zA ?_ _)); exact BK353.out)) : gb353 ≠ gb354)); have n6_ := qM ((by rw [hg]; exact Nat.ne_of_gt (blk_lt (g := gb353) (o := .cells #[.int .i64 a0_0, .slice A0_1 l0_1.length c0_1, .slice A0_2 l0_2.length c0_2, .int .i64 a0_3, .slice A0_4 l0_4.length c0_4] 48 (0, 0)) (by (with_reducible repeat (first | refine zN ?_ _ | refine zD ?_ | refine zA ?_ _)); exact BK353.out)) : gb354 ≠ gb353)); clear BK353; clear HB; have BK353 := n0_; have HB := n1_; have BK354 := n2_; have GW354 := n3_; have GE354 := n4_; have NB353_354 := n5_; have NB354_353 := n6_; clear n0_ n1_ n2_ n3_ n4_ n5_ n6_; clear hb hbox hg; have hnb8 := NB353_354.out; have hnc8 := NB354_353.out; have hcz9_0 : w7.cell? ⟨gb353, 0, none⟩ = some (.int .i64 a0_0) := (zC BK353.out 0).trans rfl; have hcz9_1 : w7.cell? ⟨gb353, 1, none⟩ = some (.slice A0_1 l0_1.length c0_1) := (zC BK353.out 1).trans rfl; have hcz9_2 : w7.cell? ⟨gb353, 2, none⟩ = some (.slice A0_2 l0_2.length c0_2) := (zC BK353.out 2).trans rfl; have hcz9_3 : w7.cell? ⟨gb353, 3, none⟩ = some (.int .i64 a0_3) := (zC BK353.out 3).trans rfl; have hcz9_4 : w7.cell? ⟨gb353, 4, none⟩ = some (.slice A0_4 l0_4.length c0_4) := (zC BK353.out 4).trans rfl; have hfz9_0 := zF BK353.out 0; have hfz9_1 := zF BK353.out 1; have hfz9_2 := zF BK353.out 2; have hfz9_3 := zF BK353.out 3; have hfz9_4 := zF BK353.out 4; have hcz10_0 : w7.cell? ⟨gb354, 0, none⟩ = some (.int .i64 a1_0) := (zC BK354.out 0).trans rfl; have hcz10_1 : w7.cell? ⟨gb354, 1, none⟩ = some (.slice A1_1 l1_1.length c1_1) := (zC BK354.out 1).trans rfl; have hcz10_2 : w7.cell? ⟨gb354, 2, none⟩ = some (.slice A1_2 l1_2.length c1_2) := (zC BK354.out 2).trans rfl; have hcz10_3 : w7.cell? ⟨gb354, 3, none⟩ = some (.int .i64 a1_3) := (zC BK354.out 3).trans rfl; have hcz10_4 : w7.cell? ⟨gb354, 4, none⟩ = some (.slice A1_4 l1_4.length c1_4) := (zC BK354.out 4).trans rfl; have hfz10_0 := zF BK354.out 0; have hfz10_1 := zF BK354.out 1; have hfz10_2 := zF BK354.out 2; have hfz10_3 := zF BK354.out 3; have hfz10_4 := zF BK354.out 4) | ((with_reducible refine gate_callee (f := 42) rfl ?_); refine goesL_ (some 9) rfl rfl Try.func42 (by kernel_rfl) rfl #[.agg #[.int .i64 a0_0, .slice A0_1 l0_1.length c0_1, .slice A0_2 l0_2.length c0_2, .int .i64 a0_3], .agg #[.int .i64 a1_0, .slice A1_1 l1_1.length c1_1, .slice A1_2 l1_2.length c1_2, .int .i64 a1_3]] rfl (by (try simp only [List.map_toArray, List.map_cons, List.map_nil]); first | done | rfl | (simp only [List.length_drop, List.length_take]; rfl)) ?_; (with_reducible refine (laws_caState.calls k a0_0 _ _ l0_1 _ _ l0_2 a0_3 a1_0 _ _ l1_1 _ _ l1_2 a1_3 true _ ?side1 ?side2 ?side3 ?side4 ?side5 ?side6 ?side7 ?side8 A3.out).mono ?_); (case side1 => repeat (first | exact (Kd.C_below HR0_1.out HB.out) | (with_reducible refine Kd.C_alloc ?_ _) | (with_reducible refine Kd.C_drewN ?_ _) | (with_reducible refine Kd.C_drew ?_))); (case side2 => exact HC0_1.out); (case side3 => repeat (first | exact (Kd.C_below HR0_2.out HB.out) | (with_reducible refine Kd.C_alloc ?_ _) | (with_reducible refine Kd.C_drewN ?_ _) | (with_reducible refine Kd.C_drew ?_))); (case side4 => exact HC0_2.out); (case side5 => repeat (first | exact (Kd.C_below HR1_1.out HB.out) | (with_reducible refine Kd.C_alloc ?_ _) | (with_reducible refine Kd.C_drewN ?_ _) | (with_reducible refine Kd.C_drew ?_))); (case side6 => exact HC1_1.out); (case side7 => repeat (first | exact (Kd.C_below HR1_2.out HB.out) | (with_reducible refine Kd.C_alloc ?_ _) | (with_reducible refine Kd.C_drewN ?_ _) | (with_reducible refine Kd.C_drew ?_))); (case side8 => exact HC1_2.out); rintro e w11 ⟨rfl, hb⟩; refine ⟨_, rfl, ?_⟩; have n0_ := qM (blk_below (g := gb353) (o := .cells #[.int .i64 a0_0, .slice A0_1 l0_1.length c0_1, .slice A0_2 l0_2.length c0_2, .int .i64 a0_3, .slice A0_4 l0_4.length c0_4] 48 (0, 0)) (by (with_reducible repeat (first | refine zN ?_ _ | refine zD ?_ | refine zA ?_ _)); exact BK353.out) hb); have n1_ := qM (blk_below (g := gb354) (o := .cells #[.int .i64 a1_0, .slice A1_1 l1_1.length c1_1, .slice A1_2 l1_2.length c1_2, .int .i64 a1_3, .slice A1_4 l1_4.length c1_4] 48 (0, 0)) (by (with_reducible repeat (first | refine zN ?_ _ | refine zD ?_ | refine zA ?_ _)); exact BK354.out) hb); have n2_ := qM (below_step (by repeat (first | (with_reducible first | exact HB.out | apply yA | apply yN | apply yD | refine yS ?_ GE353.out | refine yS ?_ GE354.out) | exact HB.out)) hb); clear BK353; clear BK354; clear HB; have BK353 := n0_; have BK354 := n1_; have HB := n2_; clear n0_ n1_ n2_; (try clear hb); (try clear hb2); (try clear hk); (try clear hi); have hcz12_0 : w11.cell? ⟨gb353, 0, none⟩ = some (.int .i64 a0_0) := (zC BK353.out 0).trans rfl; have hcz12_1 : w11.cell? ⟨gb353, 1, none⟩ = some (.slice A0_1 l0_1.length c0_1) := (zC BK353.out 1).trans rfl; have hcz12_2 : w11.cell? ⟨gb353, 2, none⟩ = some (.slice A0_2 l0_2.length c0_2) := (zC BK353.out 2).trans rfl; have hcz12_3 : w11.cell? ⟨gb353, 3, none⟩ = some (.int .i64 a0_3) := (zC BK353.out 3).trans rfl; have hcz12_4 : w11.cell? ⟨gb353, 4, none⟩ = some (.slice A0_4 l0_4.length c0_4) := (zC BK353.out 4).trans rfl; have hfz12_0 := zF BK353.out 0; have hfz12_1 := zF BK353.out 1; have hfz12_2 := zF BK353.out 2; have hfz12_3 := zF BK353.out 3; have hfz12_4 := zF BK353.out 4; have hcz13_0 : w11.cell? ⟨gb354, 0, none⟩ = some (.int .i64 a1_0) := (zC BK354.out 0).trans rfl; have hcz13_1 : w11.cell? ⟨gb354, 1, none⟩ = some (.slice A1_1 l1_1.length c1_1) := (zC BK354.out 1).trans rfl; have hcz13_2 : w11.cell? ⟨gb354, 2, none⟩ = some (.slice A1_2 l1_2.length c1_2) := (zC BK354.out 2).trans rfl; have hcz13_3 : w11.cell? ⟨gb354, 3, none⟩ = some (.int .i64 a1_3) := (zC BK354.out 3).trans rfl; have hcz13_4 : w11.cell? ⟨gb354, 4, none⟩ = some (.slice A1_4 l1_4.length c1_4) := (zC BK354.out 4).trans rfl; have hfz13_0 := zF BK354.out 0; have hfz13_1 := zF BK354.out 1; have hfz13_2 := zF BK354.out 2; have hfz13_3 := zF BK354.out 3; have hfz13_4 := zF BK354.out 4) | (go_at_call 43; (with_reducible refine (laws_caBytes.calls _ _ l0_4 _ _ l1_4 t356 _ ?side1 ?side2 ?side3 ?side4 A5.out).mono ?_); (case side1 => repeat (first | exact (Kd.C_below HR0_4.out HB.out) | (with_reducible refine Kd.C_alloc ?_ _) | (with_reducible refine Kd.C_drewN ?_ _) | (with_reducible refine Kd.C_drew ?_))); (case side2 => exact HC0_4.out); (case side3 => repeat (first | exact (Kd.C_below HR1_4.out HB.out) | (with_reducible refine Kd.C_alloc ?_ _) | (with_reducible refine Kd.C_drewN ?_ _) | (with_reducible refine Kd.C_drew ?_))); (case side4 => exact HC1_4.out); rintro e w' ⟨rfl, ⟨nd, rfl⟩⟩))
    go_ret
    exact ⟨by first | rfl | (simp [errW_none, errW_some] <;> rfl) | (simp [*, errW_none, errW_some] <;> rfl), by repeat (first | (with_reducible first | exact HB.out | apply yA | apply yN | apply yD | refine yS ?_ GE353.out | refine yS ?_ GE354.out) | exact HB.out)⟩
  · replace c4 := Bool.eq_false_iff.mpr c4
    subst c4
    have H1 : (some false) = some r := by rw [if_neg (show ¬ (false = true) by decide)] at H; exact H
    clear H
    have H := H1
    clear H1
    obtain rfl := Option.some.inj H
    go_enter Try.func41, Try.ntmps41
    go_wp2_with (first | ((with_reducible refine gate_dst (N := 2) rfl ?_); refine box_event ?hg (N := 2) ?hd (cs := #[.int .i64 a0_0, .slice A0_1 l0_1.length c0_1, .slice A0_2 l0_2.length c0_2, .int .i64 a0_3, .slice A0_4 l0_4.length c0_4]) (t := 48) ?hr ?_; (case hd => rfl); (case hg => rfl); (case hr => first | (go_simp; done) | (go_simp; rfl)); intro gb353 hg w14 hbox hb; have n0_ := qM (below_step (by repeat (first | (with_reducible first | exact HB.out | apply yA | apply yN | apply yD) | exact HB.out)) hb); have n1_ := qM (hbox); have n2_ := qM ((by rw [hg]; exact (below_size (by repeat (first | (with_reducible first | exact HB.out | apply yA | apply yN | apply yD) | exact HB.out))) : w.heap.size ≤ gb353)); have n3_ := qM ((by rw [hg]; exact (below_size (by repeat (first | (with_reducible first | exact HB.out | apply yA | apply yN | apply yD) | exact HB.out))) : w.heap.size ≤ gb353)); clear HB; have HB := n0_; have BK353 := n1_; have GW353 := n2_; have GE353 := n3_; clear n0_ n1_ n2_ n3_; clear hb hbox hg) | ((with_reducible refine gate_dst (N := 3) rfl ?_); refine box_event ?hg (N := 3) ?hd (cs := #[.int .i64 a1_0, .slice A1_1 l1_1.length c1_1, .slice A1_2 l1_2.length c1_2, .int .i64 a1_3, .slice A1_4 l1_4.length c1_4]) (t := 48) ?hr ?_; (case hd => rfl); (case hg => rfl); (case hr => first | (go_simp; done) | (go_simp; rfl)); intro gb354 hg w15 hbox hb; have n0_ := qM (blk_below (g := gb353) (o := .cells #[.int .i64 a0_0, .slice A0_1 l0_1.length c0_1, .slice A0_2 l0_2.length c0_2, .int .i64 a0_3, .slice A0_4 l0_4.length c0_4] 48 (0, 0)) (by (with_reducible repeat (first | refine zN ?_ _ | refine zD ?_ | refine zA ?_ _)); exact BK353.out) hb); have n1_ := qM (below_step (by repeat (first | (with_reducible first | exact HB.out | apply yA | apply yN | apply yD | refine yS ?_ GE353.out) | exact HB.out)) hb); have n2_ := qM (hbox); have n3_ := qM ((by rw [hg]; exact (below_size (by repeat (first | (with_reducible first | exact HB.out | apply yA | apply yN | apply yD | refine yS ?_ GE353.out) | exact HB.out))) : w.heap.size ≤ gb354)); have n4_ := qM ((by rw [hg]; exact (below_size (by repeat (first | (with_reducible first | exact HB.out | apply yA | apply yN | apply yD | refine yS ?_ GE353.out) | exact HB.out))) : w.heap.size ≤ gb354)); have n5_ := qM ((by rw [hg]; exact Nat.ne_of_lt (blk_lt (g := gb353) (o := .cells #[.int .i64 a0_0, .slice A0_1 l0_1.length c0_1, .slice A0_2 l0_2.length c0_2, .int .i64 a0_3, .slice A0_4 l0_4.length c0_4] 48 (0, 0)) (by (with_reducible repeat (first | refine zN ?_ _ | refine zD ?_ | refine zA ?_ _)); exact BK353.out)) : gb353 ≠ gb354)); have n6_ := qM ((by rw [hg]; exact Nat.ne_of_gt (blk_lt (g := gb353) (o := .cells #[.int .i64 a0_0, .slice A0_1 l0_1.length c0_1, .slice A0_2 l0_2.length c0_2, .int .i64 a0_3, .slice A0_4 l0_4.length c0_4] 48 (0, 0)) (by (with_reducible repeat (first | refine zN ?_ _ | refine zD ?_ | refine zA ?_ _)); exact BK353.out)) : gb354 ≠ gb353)); clear BK353; clear HB; have BK353 := n0_; have HB := n1_; have BK354 := n2_; have GW354 := n3_; have GE354 := n4_; have NB353_354 := n5_; have NB354_353 := n6_; clear n0_ n1_ n2_ n3_ n4_ n5_ n6_; clear hb hbox hg; have hnb16 := NB353_354.out; have hnc16 := NB354_353.out; have hcz17_0 : w15.cell? ⟨gb353, 0, none⟩ = some (.int .i64 a0_0) := (zC BK353.out 0).trans rfl; have hcz17_1 : w15.cell? ⟨gb353, 1, none⟩ = some (.slice A0_1 l0_1.length c0_1) := (zC BK353.out 1).trans rfl; have hcz17_2 : w15.cell? ⟨gb353, 2, none⟩ = some (.slice A0_2 l0_2.length c0_2) := (zC BK353.out 2).trans rfl; have hcz17_3 : w15.cell? ⟨gb353, 3, none⟩ = some (.int .i64 a0_3) := (zC BK353.out 3).trans rfl; have hcz17_4 : w15.cell? ⟨gb353, 4, none⟩ = some (.slice A0_4 l0_4.length c0_4) := (zC BK353.out 4).trans rfl; have hfz17_0 := zF BK353.out 0; have hfz17_1 := zF BK353.out 1; have hfz17_2 := zF BK353.out 2; have hfz17_3 := zF BK353.out 3; have hfz17_4 := zF BK353.out 4; have hcz18_0 : w15.cell? ⟨gb354, 0, none⟩ = some (.int .i64 a1_0) := (zC BK354.out 0).trans rfl; have hcz18_1 : w15.cell? ⟨gb354, 1, none⟩ = some (.slice A1_1 l1_1.length c1_1) := (zC BK354.out 1).trans rfl; have hcz18_2 : w15.cell? ⟨gb354, 2, none⟩ = some (.slice A1_2 l1_2.length c1_2) := (zC BK354.out 2).trans rfl; have hcz18_3 : w15.cell? ⟨gb354, 3, none⟩ = some (.int .i64 a1_3) := (zC BK354.out 3).trans rfl; have hcz18_4 : w15.cell? ⟨gb354, 4, none⟩ = some (.slice A1_4 l1_4.length c1_4) := (zC BK354.out 4).trans rfl; have hfz18_0 := zF BK354.out 0; have hfz18_1 := zF BK354.out 1; have hfz18_2 := zF BK354.out 2; have hfz18_3 := zF BK354.out 3; have hfz18_4 := zF BK354.out 4) | ((with_reducible refine gate_callee (f := 42) rfl ?_); refine goesL_ (some 9) rfl rfl Try.func42 (by kernel_rfl) rfl #[.agg #[.int .i64 a0_0, .slice A0_1 l0_1.length c0_1, .slice A0_2 l0_2.length c0_2, .int .i64 a0_3], .agg #[.int .i64 a1_0, .slice A1_1 l1_1.length c1_1, .slice A1_2 l1_2.length c1_2, .int .i64 a1_3]] rfl (by (try simp only [List.map_toArray, List.map_cons, List.map_nil]); first | done | rfl | (simp only [List.length_drop, List.length_take]; rfl)) ?_; (with_reducible refine (laws_caState.calls k a0_0 _ _ l0_1 _ _ l0_2 a0_3 a1_0 _ _ l1_1 _ _ l1_2 a1_3 false _ ?side1 ?side2 ?side3 ?side4 ?side5 ?side6 ?side7 ?side8 A3.out).mono ?_); (case side1 => repeat (first | exact (Kd.C_below HR0_1.out HB.out) | (with_reducible refine Kd.C_alloc ?_ _) | (with_reducible refine Kd.C_drewN ?_ _) | (with_reducible refine Kd.C_drew ?_))); (case side2 => exact HC0_1.out); (case side3 => repeat (first | exact (Kd.C_below HR0_2.out HB.out) | (with_reducible refine Kd.C_alloc ?_ _) | (with_reducible refine Kd.C_drewN ?_ _) | (with_reducible refine Kd.C_drew ?_))); (case side4 => exact HC0_2.out); (case side5 => repeat (first | exact (Kd.C_below HR1_1.out HB.out) | (with_reducible refine Kd.C_alloc ?_ _) | (with_reducible refine Kd.C_drewN ?_ _) | (with_reducible refine Kd.C_drew ?_))); (case side6 => exact HC1_1.out); (case side7 => repeat (first | exact (Kd.C_below HR1_2.out HB.out) | (with_reducible refine Kd.C_alloc ?_ _) | (with_reducible refine Kd.C_drewN ?_ _) | (with_reducible refine Kd.C_drew ?_))); (case side8 => exact HC1_2.out); rintro e w19 ⟨rfl, hb⟩; refine ⟨_, rfl, ?_⟩; have n0_ := qM (blk_below (g := gb353) (o := .cells #[.int .i64 a0_0, .slice A0_1 l0_1.length c0_1, .slice A0_2 l0_2.length c0_2, .int .i64 a0_3, .slice A0_4 l0_4.length c0_4] 48 (0, 0)) (by (with_reducible repeat (first | refine zN ?_ _ | refine zD ?_ | refine zA ?_ _)); exact BK353.out) hb); have n1_ := qM (blk_below (g := gb354) (o := .cells #[.int .i64 a1_0, .slice A1_1 l1_1.length c1_1, .slice A1_2 l1_2.length c1_2, .int .i64 a1_3, .slice A1_4 l1_4.length c1_4] 48 (0, 0)) (by (with_reducible repeat (first | refine zN ?_ _ | refine zD ?_ | refine zA ?_ _)); exact BK354.out) hb); have n2_ := qM (below_step (by repeat (first | (with_reducible first | exact HB.out | apply yA | apply yN | apply yD | refine yS ?_ GE353.out | refine yS ?_ GE354.out) | exact HB.out)) hb); clear BK353; clear BK354; clear HB; have BK353 := n0_; have BK354 := n1_; have HB := n2_; clear n0_ n1_ n2_; (try clear hb); (try clear hb2); (try clear hk); (try clear hi)))
    go_ret
    exact ⟨by first | rfl | (simp [errW_none, errW_some] <;> rfl) | (simp [*, errW_none, errW_some] <;> rfl), by repeat (first | (with_reducible first | exact HB.out | apply yA | apply yN | apply yD | refine yS ?_ GE353.out | refine yS ?_ GE354.out) | exact HB.out)⟩

end Go.Proofs.Ytcnipdbommmkmaa.PFnCelInputB
