/- Functions that a law reaches: the drawn region of one of them, a theorem for each state of it; turned by a program from what the print laid. -/
import Derived.Test.YtaohaebgpbagmaaPFnOutPeerx3b
import Derived.Test.YtaohaebgpbagmaaPFnOutPeerx3c
namespace Go.Proofs.Ytaohaebgpbagmaa.PFnOutPeer
open Go.RowKit Go.Proofs.YtaohaebgpbagmaaW.PrintWords Go.Proofs.YtaohaebgpbagmaaW.PrintLast Go.Proofs.YtaohaebgpbagmaaW.PrintMore
attribute [local go_sem] max2_int min2_int max_two min_two max_three min_three max_four min_four   -- for this text's walks alone
set_option linter.unusedVariables false
set_option linter.unusedSimpArgs false
open Go.Proofs.YtaohaebgpbagmaaAl
set_option maxHeartbeats 8000000 in
set_option maxRecDepth 100000 in
theorem spec_l31Out.region (k g : Nat) (s0_0 : List Int) (s0_1 : Int) (w0 w : World) (gb113 : Nat) (t114 t115 t116 t117 t121 t122 t124 t125 t129 t130 : Int) (y118 y126 : List Int) (K : Act → World → Prop) (post : Ending → World → Prop) (w15 : World) (hC : spec_l31Out.CX k g s0_0 s0_1 w0 w gb113 t114 t115 t116 t117 t121 t122 t124 t125 t129 t130 y118 y126) (BK113 : Aside0 (w15.heap[gb113]? = some (.cells #[.int .i64 0, .int .i64 0, .int .i64 0, .int .i64 0] 53 (0, 0)))) (HI0 : Aside0 (IsS93 w0 w15 g s0_0 s0_1)) (HK : Aside0 (KeepBut w w15 g none)) (HB : Aside0 (Below w0.heap.size w0 w15)) (hJ1_4_5_7_9_11_12_14_16_18 : spec_l31Out.J1_4_5_7_9_11_12_14_16_18 k g s0_0 s0_1 w0 w gb113 t114 t115 t116 t117 t121 t122 t124 t125 t129 t130 y118 y126 K post) :
  wpAnyLast Try.prog .any spec_l31Out.OPS (Exit.then K (bodyPost Try.prog Try.f61 post)) (fun _ => True) [] 15 spec_l31Out.m5 (spec_l31Out.FR g gb113) w15 := by
 have hJ1_4_5_7_9_11_12_14_16 := spec_l31Out.j1_4_5_7_9_11_12_14_16 k g s0_0 s0_1 w0 w gb113 t114 t115 t116 t117 t121 t122 t124 t125 t129 t130 y118 y126 K post hC hJ1_4_5_7_9_11_12_14_16_18
 have hJ1_4_5_7_9_11_12_14_18 := spec_l31Out.j1_4_5_7_9_11_12_14_18 k g s0_0 s0_1 w0 w gb113 t114 t115 t116 t117 t121 t122 t124 t125 t129 t130 y118 y126 K post hC hJ1_4_5_7_9_11_12_14_16_18
 have hJ1_4_5_7_11_12_14_16_18 := spec_l31Out.j1_4_5_7_11_12_14_16_18 k g s0_0 s0_1 w0 w gb113 t114 t115 t116 t117 t121 t122 t124 t125 t129 t130 y118 y126 K post hC hJ1_4_5_7_9_11_12_14_16_18
 have hJ1_4_5_7_9_11_12_14 := spec_l31Out.j1_4_5_7_9_11_12_14 k g s0_0 s0_1 w0 w gb113 t114 t115 t116 t117 t121 t122 t124 t125 t129 t130 y118 y126 K post hC hJ1_4_5_7_9_11_12_14_16 hJ1_4_5_7_9_11_12_14_18
 have hJ1_4_5_7_9_11_12_18 := spec_l31Out.j1_4_5_7_9_11_12_18 k g s0_0 s0_1 w0 w gb113 t114 t115 t116 t117 t121 t122 t124 t125 t129 t130 y118 y126 K post hC hJ1_4_5_7_9_11_12_14_18
 have hJ1_4_5_7_9_11_14_18 := spec_l31Out.j1_4_5_7_9_11_14_18 k g s0_0 s0_1 w0 w gb113 t114 t115 t116 t117 t121 t122 t124 t125 t129 t130 y118 y126 K post hC hJ1_4_5_7_9_11_12_14_18
 have hJ1_4_5_7_11_12_14_16 := spec_l31Out.j1_4_5_7_11_12_14_16 k g s0_0 s0_1 w0 w gb113 t114 t115 t116 t117 t121 t122 t124 t125 t129 t130 y118 y126 K post hC hJ1_4_5_7_9_11_12_14_16 hJ1_4_5_7_11_12_14_16_18
 have hJ1_4_5_7_11_12_14_18 := spec_l31Out.j1_4_5_7_11_12_14_18 k g s0_0 s0_1 w0 w gb113 t114 t115 t116 t117 t121 t122 t124 t125 t129 t130 y118 y126 K post hC hJ1_4_5_7_9_11_12_14_18 hJ1_4_5_7_11_12_14_16_18
 have hJ1_4_7_11_12_14_16_18 := spec_l31Out.j1_4_7_11_12_14_16_18 k g s0_0 s0_1 w0 w gb113 t114 t115 t116 t117 t121 t122 t124 t125 t129 t130 y118 y126 K post hC hJ1_4_5_7_11_12_14_16_18
 have hJ1_4_5_7_9_11_12 := spec_l31Out.j1_4_5_7_9_11_12 k g s0_0 s0_1 w0 w gb113 t114 t115 t116 t117 t121 t122 t124 t125 t129 t130 y118 y126 K post hC hJ1_4_5_7_9_11_12_14 hJ1_4_5_7_9_11_12_18
 have hJ1_4_5_7_9_11_14 := spec_l31Out.j1_4_5_7_9_11_14 k g s0_0 s0_1 w0 w gb113 t114 t115 t116 t117 t121 t122 t124 t125 t129 t130 y118 y126 K post hC hJ1_4_5_7_9_11_12_14 hJ1_4_5_7_9_11_14_18
 have hJ1_4_5_7_9_11_18 := spec_l31Out.j1_4_5_7_9_11_18 k g s0_0 s0_1 w0 w gb113 t114 t115 t116 t117 t121 t122 t124 t125 t129 t130 y118 y126 K post hC hJ1_4_5_7_9_11_12_18 hJ1_4_5_7_9_11_14_18
 have hJ1_4_5_7_11_12_14 := spec_l31Out.j1_4_5_7_11_12_14 k g s0_0 s0_1 w0 w gb113 t114 t115 t116 t117 t121 t122 t124 t125 t129 t130 y118 y126 K post hC hJ1_4_5_7_9_11_12_14 hJ1_4_5_7_11_12_14_16 hJ1_4_5_7_11_12_14_18
 have hJ1_4_5_7_11_12_18 := spec_l31Out.j1_4_5_7_11_12_18 k g s0_0 s0_1 w0 w gb113 t114 t115 t116 t117 t121 t122 t124 t125 t129 t130 y118 y126 K post hC hJ1_4_5_7_9_11_12_18 hJ1_4_5_7_11_12_14_18
 have hJ1_4_5_7_11_14_18 := spec_l31Out.j1_4_5_7_11_14_18 k g s0_0 s0_1 w0 w gb113 t114 t115 t116 t117 t121 t122 t124 t125 t129 t130 y118 y126 K post hC hJ1_4_5_7_9_11_14_18 hJ1_4_5_7_11_12_14_18
 have hJ1_4_7_11_12_14_16 := spec_l31Out.j1_4_7_11_12_14_16 k g s0_0 s0_1 w0 w gb113 t114 t115 t116 t117 t121 t122 t124 t125 t129 t130 y118 y126 K post hC hJ1_4_5_7_11_12_14_16 hJ1_4_7_11_12_14_16_18
 have hJ1_4_7_11_12_14_18 := spec_l31Out.j1_4_7_11_12_14_18 k g s0_0 s0_1 w0 w gb113 t114 t115 t116 t117 t121 t122 t124 t125 t129 t130 y118 y126 K post hC hJ1_4_5_7_11_12_14_18 hJ1_4_7_11_12_14_16_18
 have hJ1_4_5_7_9_11 := spec_l31Out.j1_4_5_7_9_11 k g s0_0 s0_1 w0 w gb113 t114 t115 t116 t117 t121 t122 t124 t125 t129 t130 y118 y126 K post hC hJ1_4_5_7_9_11_12 hJ1_4_5_7_9_11_14 hJ1_4_5_7_9_11_18
 have hJ1_4_5_7_9_18 := spec_l31Out.j1_4_5_7_9_18 k g s0_0 s0_1 w0 w gb113 t114 t115 t116 t117 t121 t122 t124 t125 t129 t130 y118 y126 K post hC hJ1_4_5_7_9_11_18
 have hJ1_4_5_7_11_12 := spec_l31Out.j1_4_5_7_11_12 k g s0_0 s0_1 w0 w gb113 t114 t115 t116 t117 t121 t122 t124 t125 t129 t130 y118 y126 K post hC hJ1_4_5_7_9_11_12 hJ1_4_5_7_11_12_14 hJ1_4_5_7_11_12_18
 have hJ1_4_5_7_11_14 := spec_l31Out.j1_4_5_7_11_14 k g s0_0 s0_1 w0 w gb113 t114 t115 t116 t117 t121 t122 t124 t125 t129 t130 y118 y126 K post hC hJ1_4_5_7_9_11_14 hJ1_4_5_7_11_12_14 hJ1_4_5_7_11_14_18
 have hJ1_4_5_7_11_18 := spec_l31Out.j1_4_5_7_11_18 k g s0_0 s0_1 w0 w gb113 t114 t115 t116 t117 t121 t122 t124 t125 t129 t130 y118 y126 K post hC hJ1_4_5_7_9_11_18 hJ1_4_5_7_11_12_18 hJ1_4_5_7_11_14_18
 have hJ1_4_7_11_12_14 := spec_l31Out.j1_4_7_11_12_14 k g s0_0 s0_1 w0 w gb113 t114 t115 t116 t117 t121 t122 t124 t125 t129 t130 y118 y126 K post hC hJ1_4_5_7_11_12_14 hJ1_4_7_11_12_14_16 hJ1_4_7_11_12_14_18
 have hJ1_4_7_11_12_18 := spec_l31Out.j1_4_7_11_12_18 k g s0_0 s0_1 w0 w gb113 t114 t115 t116 t117 t121 t122 t124 t125 t129 t130 y118 y126 K post hC hJ1_4_5_7_11_12_18 hJ1_4_7_11_12_14_18
 have hJ1_4_7_11_14_18 := spec_l31Out.j1_4_7_11_14_18 k g s0_0 s0_1 w0 w gb113 t114 t115 t116 t117 t121 t122 t124 t125 t129 t130 y118 y126 K post hC hJ1_4_5_7_11_14_18 hJ1_4_7_11_12_14_18
 have hJ1_4_5_7_9 := spec_l31Out.j1_4_5_7_9 k g s0_0 s0_1 w0 w gb113 t114 t115 t116 t117 t121 t122 t124 t125 t129 t130 y118 y126 K post hC hJ1_4_5_7_9_11 hJ1_4_5_7_9_18
 have hJ1_4_5_7_11 := spec_l31Out.j1_4_5_7_11 k g s0_0 s0_1 w0 w gb113 t114 t115 t116 t117 t121 t122 t124 t125 t129 t130 y118 y126 K post hC hJ1_4_5_7_9_11 hJ1_4_5_7_11_12 hJ1_4_5_7_11_14 hJ1_4_5_7_11_18
 have hJ1_4_5_7_18 := spec_l31Out.j1_4_5_7_18 k g s0_0 s0_1 w0 w gb113 t114 t115 t116 t117 t121 t122 t124 t125 t129 t130 y118 y126 K post hC hJ1_4_5_7_9_18 hJ1_4_5_7_11_18
 have hJ1_4_7_11_12 := spec_l31Out.j1_4_7_11_12 k g s0_0 s0_1 w0 w gb113 t114 t115 t116 t117 t121 t122 t124 t125 t129 t130 y118 y126 K post hC hJ1_4_5_7_11_12 hJ1_4_7_11_12_14 hJ1_4_7_11_12_18
 have hJ1_4_7_11_14 := spec_l31Out.j1_4_7_11_14 k g s0_0 s0_1 w0 w gb113 t114 t115 t116 t117 t121 t122 t124 t125 t129 t130 y118 y126 K post hC hJ1_4_5_7_11_14 hJ1_4_7_11_12_14 hJ1_4_7_11_14_18
 have hJ1_4_7_11_18 := spec_l31Out.j1_4_7_11_18 k g s0_0 s0_1 w0 w gb113 t114 t115 t116 t117 t121 t122 t124 t125 t129 t130 y118 y126 K post hC hJ1_4_5_7_11_18 hJ1_4_7_11_12_18 hJ1_4_7_11_14_18
 have hJ1_4_5_7 := spec_l31Out.j1_4_5_7 k g s0_0 s0_1 w0 w gb113 t114 t115 t116 t117 t121 t122 t124 t125 t129 t130 y118 y126 K post hC hJ1_4_5_7_9 hJ1_4_5_7_11 hJ1_4_5_7_18
 have hJ1_4_5_18 := spec_l31Out.j1_4_5_18 k g s0_0 s0_1 w0 w gb113 t114 t115 t116 t117 t121 t122 t124 t125 t129 t130 y118 y126 K post hC hJ1_4_5_7_18
 have hJ1_4_7_11 := spec_l31Out.j1_4_7_11 k g s0_0 s0_1 w0 w gb113 t114 t115 t116 t117 t121 t122 t124 t125 t129 t130 y118 y126 K post hC hJ1_4_5_7_11 hJ1_4_7_11_12 hJ1_4_7_11_14 hJ1_4_7_11_18
 have hJ1_4_7_18 := spec_l31Out.j1_4_7_18 k g s0_0 s0_1 w0 w gb113 t114 t115 t116 t117 t121 t122 t124 t125 t129 t130 y118 y126 K post hC hJ1_4_5_7_18 hJ1_4_7_11_18
 have hJ1_4_5 := spec_l31Out.j1_4_5 k g s0_0 s0_1 w0 w gb113 t114 t115 t116 t117 t121 t122 t124 t125 t129 t130 y118 y126 K post hC hJ1_4_5_7 hJ1_4_5_18
 have hJ1_4_7 := spec_l31Out.j1_4_7 k g s0_0 s0_1 w0 w gb113 t114 t115 t116 t117 t121 t122 t124 t125 t129 t130 y118 y126 K post hC hJ1_4_5_7 hJ1_4_7_11 hJ1_4_7_18
 have hJ1_4_18 := spec_l31Out.j1_4_18 k g s0_0 s0_1 w0 w gb113 t114 t115 t116 t117 t121 t122 t124 t125 t129 t130 y118 y126 K post hC hJ1_4_5_18 hJ1_4_7_18
 have hJ1_5_18 := spec_l31Out.j1_5_18 k g s0_0 s0_1 w0 w gb113 t114 t115 t116 t117 t121 t122 t124 t125 t129 t130 y118 y126 K post hC hJ1_4_5_18
 have hJ1_4 := spec_l31Out.j1_4 k g s0_0 s0_1 w0 w gb113 t114 t115 t116 t117 t121 t122 t124 t125 t129 t130 y118 y126 K post hC hJ1_4_5 hJ1_4_7 hJ1_4_18
 have hJ1_5 := spec_l31Out.j1_5 k g s0_0 s0_1 w0 w gb113 t114 t115 t116 t117 t121 t122 t124 t125 t129 t130 y118 y126 K post hC hJ1_4_5 hJ1_5_18
 have hJ1_18 := spec_l31Out.j1_18 k g s0_0 s0_1 w0 w gb113 t114 t115 t116 t117 t121 t122 t124 t125 t129 t130 y118 y126 K post hC hJ1_4_18 hJ1_5_18
 have hJ5_18 := spec_l31Out.j5_18 k g s0_0 s0_1 w0 w gb113 t114 t115 t116 t117 t121 t122 t124 t125 t129 t130 y118 y126 K post hC hJ1_5_18
 have hJ1 := spec_l31Out.j1 k g s0_0 s0_1 w0 w gb113 t114 t115 t116 t117 t121 t122 t124 t125 t129 t130 y118 y126 K post hC hJ1_4 hJ1_5 hJ1_18
 have hJ5 := spec_l31Out.j5 k g s0_0 s0_1 w0 w gb113 t114 t115 t116 t117 t121 t122 t124 t125 t129 t130 y118 y126 K post hC hJ1_5 hJ5_18
 have hJ18 := spec_l31Out.j18 k g s0_0 s0_1 w0 w gb113 t114 t115 t116 t117 t121 t122 t124 t125 t129 t130 y118 y126 K post hC hJ1_18 hJ5_18
 obtain ⟨HW0, A2, A3, Ny118, A4, A7, Ny126, A8, GW113, GE113, NB0_113, NB113_0, c5b0, c6b0, c9b0, c10b0⟩ := hC
 have HT_ := qM spec_l31Out.tabO
 have HW_ := qM spec_l31Out.bits1
 have pi123 : (0 ≤ (t121 : Int)) = True := eq_true (of_decide_eq_true c5b0)
 have qi123 : (t121 < (y118.length : Int)) = True := eq_true (of_decide_eq_true c6b0)
 have pi131 : (0 ≤ (t129 : Int)) = True := eq_true (of_decide_eq_true c9b0)
 have qi131 : (t129 < (y126.length : Int)) = True := eq_true (of_decide_eq_true c10b0)
 unfold spec_l31Out.J1 spec_l31Out.FR spec_l31Out.OPS at hJ1
 unfold spec_l31Out.J5 spec_l31Out.FR spec_l31Out.OPS at hJ5
 unfold spec_l31Out.J18 spec_l31Out.FR spec_l31Out.OPS at hJ18
 have hHeld := trivial
 unfold spec_l31Out.FR spec_l31Out.OPS
 refine three_ (i := 1) (j := 5) (k := 18) (Ni := some 5) (Nj := some 9) (Nk := some 3) spec_l31Out.m77 spec_l31Out.m73 spec_l31Out.m75 rfl rfl rfl rfl rfl rfl (three_of HT_.out (by kernel_rfl)) (by decide) (by decide) (by decide) (fun K hK => ?_) (fun K hK => ?_) (fun K hK => ?_)
 ·skip
  refine goes_ Try.func53 (by kernel_rfl) rfl #[.pointer (some ⟨g, 0, none⟩), .int .i64 3] (by rfl) rfl rfl (by (try simp only [List.map_toArray, List.map_cons, List.map_nil]); first | done | rfl | (simp only [List.length_drop, List.length_take]; rfl)) ?_
  with_reducible refine (spec_l30Rd_pick.calls k g s0_0 s0_1 3 t114 t115 w0 _ ?side1 ?side2 A2.out).mono ?_
  (case side1 => repeat (first | (with_reducible first | exact HI0.out | apply IsS93.alloc | apply IsS93.drewN | apply IsS93.drew | apply IsS93.set_1 | refine IsS93.far ?_ NB0_113.out _) | exact HI0.out))
  (case side2 => repeat (first | (with_reducible first | exact HB.out | apply yA | apply yN | apply yD | refine yS ?_ (IsS93.ge HI0.out) | refine yS ?_ GE113.out) | exact HB.out))
  rintro e w16 ⟨rfl, hi, hb, hk⟩
  refine ⟨_, rfl, ?_⟩
  have n0_ := qM (KeepBut.blk hk (g' := gb113) (o := .cells #[.int .i64 0, .int .i64 0, .int .i64 0, .int .i64 0] 53 (0, 0)) BK113.out NB113_0.out (by simp))
  have n1_ := qM (KeepBut.trans HK.out hk (.inl rfl))
  have n2_ := qM (hb)
  have n3_ := qM (hi)
  clear BK113 HK HB HI0
  revert n0_ n1_ n2_ n3_
  intro BK113 HK HB HI0
  (try clear hb)
  (try clear hb2)
  (try clear hk)
  (try clear hi)
  refine hK.out _ _ trivial (fun hHeld => ?_)
  clear hK K
  refine norm_ (a' := ?_) ?_ ?_
  rotate_left
  ·show Act.put _ (some 5) _ = _
   simp only [Act.put, List.setIfInBounds_toArray, List.set_cons_zero, List.set_cons_succ, i64_w, i32_w]
   rfl
  refine pure_ (i := 2) (N := some 6) (v := ?_) (a' := ?_) spec_l31Out.m72 rfl rfl (any_of HT_.out (by kernel_rfl)) (fun _ _ _ h => h) (Or.inl ⟨by rfl, ?_⟩) ?_ ?_
  rotate_left
  ·intro w'
   go_simp
   with_reducible rfl
  rotate_left
  ·simp only [Act.put, List.setIfInBounds_toArray, List.set_cons_zero, List.set_cons_succ, i64_w, i32_w]
   rfl
  exact norm_ (by first | (simp only [putAll, Act.put, List.setIfInBounds_toArray, List.set_cons_zero, List.set_cons_succ]; done) | (simp only [putAll, Act.put, List.setIfInBounds_toArray, List.set_cons_zero, List.set_cons_succ]; rfl)) (hJ1 () _ ⟨BK113.out, HI0.out, HK.out, HB.out⟩)
 ·skip
  refine Kd.R_lit_step (Kd.int .i64) _ 3 ?hg (N := 9) ?hd (xs := ([0, 1, 2, 199, 200] : List Int)) (inner := [.int .i64 0, .int .i64 1, .int .i64 2, .int .i64 199, .int .i64 200]) (ok := fun _ => True) (okp := fun _ => True) ?hr ?hp (fun _ hk => hk) trivial (Below.refl _ _) (Nat.le_refl _) (by simp) ?_; (case hd => rfl); (case hg => rfl); (case hr => first | (go_simp; done) | (go_simp; rfl)); (case hp => exact (Reps.one (show Kd.M (Kd.int .i64) _ _ _ 0 [.int .i64 0] from rfl) (Reps.one (show Kd.M (Kd.int .i64) _ _ _ 1 [.int .i64 1] from rfl) (Reps.one (show Kd.M (Kd.int .i64) _ _ _ 2 [.int .i64 2] from rfl) (Reps.one (show Kd.M (Kd.int .i64) _ _ _ 199 [.int .i64 199] from rfl) (Reps.one (show Kd.M (Kd.int .i64) _ _ _ 200 [.int .i64 200] from rfl) (Reps.none _ _)))))))
  intro v119 w16 ho17 hb hg_ hnew_
  clear hg_ hnew_
  (first | rw [← Ny118.out] at ho17 | (simp only [Int.reduceToNat] at ho17; rw [← Ny118.out] at ho17))
  have n0_ := qM (Kd.R_lower ho17 (keep_size (w := w) (g := g) (row := none) HK.out))
  have n1_ := qM (IsS93.below HI0.out hb)
  have n2_ := qM (blk_below (g := gb113) (o := .cells #[.int .i64 0, .int .i64 0, .int .i64 0, .int .i64 0] 53 (0, 0)) BK113.out hb)
  have n3_ := qM (KeepBut.trans HK.out (KeepBut.of_below hb g none) (.inl rfl))
  have n4_ := qM (below_step HB.out hb)
  clear HI0 BK113 HK HB
  revert n0_ n1_ n2_ n3_ n4_
  intro HO120 HI0 BK113 HK HB
  clear hb ho17
  obtain ⟨Ao18, co18, eo18⟩ := Kd.R_slice HO120.out
  subst eo18
  obtain ⟨ado18, fo18, _⟩ := Kd.at_int (qR HO120.out).2.2 0 (by decide) (by rw [Ny118.out]; simp)
  cases fo18
  refine hK.out _ _ trivial (fun hHeld => ?_)
  clear hK K
  refine norm_ (a' := ?_) ?_ ?_
  rotate_left
  ·show Act.put _ (some 9) _ = _
   simp only [Act.put, List.setIfInBounds_toArray, List.set_cons_zero, List.set_cons_succ, i64_w, i32_w]
   rfl
  exact norm_ (by first | (simp only [putAll, Act.put, List.setIfInBounds_toArray, List.set_cons_zero, List.set_cons_succ]; done) | (simp only [putAll, Act.put, List.setIfInBounds_toArray, List.set_cons_zero, List.set_cons_succ]; rfl)) (hJ5 (.slice (some ado18) y118.length co18, ado18) _ ⟨HO120.out, ⟨_, rfl⟩, BK113.out, HI0.out, HK.out, HB.out⟩)
 ·skip
  refine box_step ?hg (N := 3) ?hd (cs := #[.int .i64 0, .int .i64 0, .int .i64 0, .int .i64 0]) (t := 53) ?hr ?_; (case hd => rfl); (case hg => rfl); (case hr => first | (go_simp; done) | (go_simp; rfl))
  intro gb132 hg w16 hbox hb
  have n0_ := qM (IsS93.below HI0.out hb)
  have n1_ := qM (blk_below (g := gb113) (o := .cells #[.int .i64 0, .int .i64 0, .int .i64 0, .int .i64 0] 53 (0, 0)) BK113.out hb)
  have n2_ := qM (KeepBut.trans HK.out (KeepBut.of_below hb g none) (.inl rfl))
  have n3_ := qM (below_step HB.out hb)
  have n4_ := qM (hbox)
  have n5_ := qM ((by rw [hg]; exact (keep_size (w := w) (g := g) (row := none) HK.out) : w.heap.size ≤ gb132))
  have n6_ := qM ((Nat.le_trans HW0.out (by rw [hg]; exact (keep_size (w := w) (g := g) (row := none) HK.out) : w.heap.size ≤ gb132) : w0.heap.size ≤ gb132))
  have n7_ := qM ((by rw [hg]; exact Nat.ne_of_lt (blk_lt (g := gb113) (o := .cells #[.int .i64 0, .int .i64 0, .int .i64 0, .int .i64 0] 53 (0, 0)) BK113.out) : gb113 ≠ gb132))
  have n8_ := qM ((by rw [hg]; exact Nat.ne_of_gt (blk_lt (g := gb113) (o := .cells #[.int .i64 0, .int .i64 0, .int .i64 0, .int .i64 0] 53 (0, 0)) BK113.out) : gb132 ≠ gb113))
  have n9_ := qM ((by rw [hg]; exact Nat.ne_of_lt (IsS93.lt (show IsS93 w0 _ g s0_0 s0_1 from by repeat (first | (with_reducible first | exact HI0.out | apply IsS93.alloc | apply IsS93.drewN | apply IsS93.drew | apply IsS93.set_1 | refine IsS93.far ?_ NB0_113.out _) | exact HI0.out))) : g ≠ gb132))
  have n10_ := qM ((by rw [hg]; exact Nat.ne_of_gt (IsS93.lt (show IsS93 w0 _ g s0_0 s0_1 from by repeat (first | (with_reducible first | exact HI0.out | apply IsS93.alloc | apply IsS93.drewN | apply IsS93.drew | apply IsS93.set_1 | refine IsS93.far ?_ NB0_113.out _) | exact HI0.out))) : gb132 ≠ g))
  clear HI0 BK113 HK HB
  revert n0_ n1_ n2_ n3_ n4_ n5_ n6_ n7_ n8_ n9_ n10_
  intro HI0 BK113 HK HB BK132 GW132 GE132 NB113_132 NB132_113 NB0_132 NB132_0
  clear hb hbox hg
  refine hK.out _ _ trivial (fun hHeld => ?_)
  clear hK K
  refine norm_ (a' := ?_) ?_ ?_
  rotate_left
  ·show Act.put _ (some 3) _ = _
   simp only [Act.put, List.setIfInBounds_toArray, List.set_cons_zero, List.set_cons_succ, i64_w, i32_w]
   rfl
  exact norm_ (by first | (simp only [putAll, Act.put, List.setIfInBounds_toArray, List.set_cons_zero, List.set_cons_succ]; done) | (simp only [putAll, Act.put, List.setIfInBounds_toArray, List.set_cons_zero, List.set_cons_succ]; rfl)) (hJ18 (gb132) _ ⟨BK113.out, BK132.out, GW132.out, GE132.out, NB0_132.out, NB132_0.out, NB113_132.out, NB132_113.out, HI0.out, HK.out, HB.out⟩)
end Go.Proofs.Ytaohaebgpbagmaa.PFnOutPeer
