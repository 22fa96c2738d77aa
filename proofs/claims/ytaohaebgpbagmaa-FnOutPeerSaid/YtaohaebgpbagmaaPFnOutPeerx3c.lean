/- Functions that a law reaches: the drawn region of one of them, a theorem for each state of it; turned by a program from what the print laid. -/
import Derived.Test.YtaohaebgpbagmaaPFnOutPeerx3a
namespace Go.Proofs.Ytaohaebgpbagmaa.PFnOutPeer
open Go.RowKit Go.Proofs.YtaohaebgpbagmaaW.PrintWords Go.Proofs.YtaohaebgpbagmaaW.PrintLast Go.Proofs.YtaohaebgpbagmaaW.PrintMore
attribute [local go_sem] max2_int min2_int max_two min_two max_three min_three max_four min_four   -- for this text's walks alone
set_option linter.unusedVariables false
set_option linter.unusedSimpArgs false
open Go.Proofs.YtaohaebgpbagmaaAl
set_option maxHeartbeats 8000000 in
set_option maxRecDepth 100000 in
theorem spec_l31Out.j1_4_7_11_12_18 (k g : Nat) (s0_0 : List Int) (s0_1 : Int) (w0 w : World) (gb113 : Nat) (t114 t115 t116 t117 t121 t122 t124 t125 t129 t130 : Int) (y118 y126 : List Int) (K : Act → World → Prop) (post : Ending → World → Prop) (hC : spec_l31Out.CX k g s0_0 s0_1 w0 w gb113 t114 t115 t116 t117 t121 t122 t124 t125 t129 t130 y118 y126) (hJ1_4_5_7_11_12_18 : spec_l31Out.J1_4_5_7_11_12_18 k g s0_0 s0_1 w0 w gb113 t114 t115 t116 t117 t121 t122 t124 t125 t129 t130 y118 y126 K post) (hJ1_4_7_11_12_14_18 : spec_l31Out.J1_4_7_11_12_14_18 k g s0_0 s0_1 w0 w gb113 t114 t115 t116 t117 t121 t122 t124 t125 t129 t130 y118 y126 K post) : spec_l31Out.J1_4_7_11_12_18 k g s0_0 s0_1 w0 w gb113 t114 t115 t116 t117 t121 t122 t124 t125 t129 t130 y118 y126 K post := by
 obtain ⟨HW0, A2, A3, Ny118, A4, A7, Ny126, A8, GW113, GE113, NB0_113, NB113_0, c5b0, c6b0, c9b0, c10b0⟩ := hC
 have HT_ := qM spec_l31Out.tabO
 have HW_ := qM spec_l31Out.bits1
 have pi123 : (0 ≤ (t121 : Int)) = True := eq_true (of_decide_eq_true c5b0)
 have qi123 : (t121 < (y118.length : Int)) = True := eq_true (of_decide_eq_true c6b0)
 have pi131 : (0 ≤ (t129 : Int)) = True := eq_true (of_decide_eq_true c9b0)
 have qi131 : (t129 < (y126.length : Int)) = True := eq_true (of_decide_eq_true c10b0)
 unfold spec_l31Out.J1_4_5_7_11_12_18 spec_l31Out.FR spec_l31Out.OPS at hJ1_4_5_7_11_12_18
 unfold spec_l31Out.J1_4_7_11_12_14_18 spec_l31Out.FR spec_l31Out.OPS at hJ1_4_7_11_12_14_18
 unfold spec_l31Out.J1_4_7_11_12_18 spec_l31Out.FR spec_l31Out.OPS
 ··skip
   rintro ⟨v127, adz_v127, gb132⟩ w24 ⟨h0_, h1_, h2_, h3_, h4_, h5_, h6_, h7_, h8_, h9_, h10_, h11_, h12_⟩
   have n0_ : Aside0 (Kd.R (Kd.int .i64) 3 w24 w.heap.size (fun _ => True) v127 y126) := ⟨h0_⟩
   have n1_ : Aside0 (∃ c_, (v127 : Value) = .slice (some adz_v127) y126.length c_) := ⟨h1_⟩
   have n2_ : Aside0 (w24.heap[gb113]? = some (.cells #[.int .i64 0, .int .i64 0, .int .i64 0, .int .i64 0] 53 (0, 0))) := ⟨h2_⟩
   have n3_ : Aside0 (w24.heap[gb132]? = some (.cells #[.int .i64 0, .int .i64 0, .int .i64 0, .int .i64 0] 53 (0, 0))) := ⟨h3_⟩
   have n4_ : Aside0 (w.heap.size ≤ gb132) := ⟨h4_⟩
   have n5_ : Aside0 (w0.heap.size ≤ gb132) := ⟨h5_⟩
   have n6_ : Aside0 (g ≠ gb132) := ⟨h6_⟩
   have n7_ : Aside0 (gb132 ≠ g) := ⟨h7_⟩
   have n8_ : Aside0 (gb113 ≠ gb132) := ⟨h8_⟩
   have n9_ : Aside0 (gb132 ≠ gb113) := ⟨h9_⟩
   have n10_ : Aside0 (IsS93 w0 w24 g s0_0 t125) := ⟨h10_⟩
   have n11_ : Aside0 (KeepBut w w24 g none) := ⟨h11_⟩
   have n12_ : Aside0 (Below w0.heap.size w0 w24) := ⟨h12_⟩
   clear h0_ h1_ h2_ h3_ h4_ h5_ h6_ h7_ h8_ h9_ h10_ h11_ h12_
   revert n0_ n1_ n2_ n3_ n4_ n5_ n6_ n7_ n8_ n9_ n10_ n11_ n12_
   intro HO128 HA_HO128 BK113 BK132 GW132 GE132 NB0_132 NB132_0 NB113_132 NB132_113 HI0 HK HB
   have hHeld := trivial
   obtain ⟨co25, eo25⟩ := HA_HO128.out
   clear HA_HO128
   subst eo25
   refine norm_ (a' := ?_) ?_ ?_
   rotate_left
   ·simp only [putAll, Act.put, List.setIfInBounds_toArray, List.set_cons_zero, List.set_cons_succ]
    rfl
   refine two_ (i := 5) (j := 14) (Ni := some 9) (Nj := some 18) spec_l31Out.m42 spec_l31Out.m43 rfl rfl rfl rfl (two_of HT_.out (by kernel_rfl)) (by decide) (by decide) (fun K hK => ?_) (fun K hK => ?_)
   ·skip
    refine Kd.R_lit_step (Kd.int .i64) _ 3 ?hg (N := 9) ?hd (xs := ([0, 1, 2, 199, 200] : List Int)) (inner := [.int .i64 0, .int .i64 1, .int .i64 2, .int .i64 199, .int .i64 200]) (ok := fun _ => True) (okp := fun _ => True) ?hr ?hp (fun _ hk => hk) trivial (Below.refl _ _) (Nat.le_refl _) (by simp) ?_; (case hd => rfl); (case hg => rfl); (case hr => first | (go_simp; done) | (go_simp; rfl)); (case hp => exact (Reps.one (show Kd.M (Kd.int .i64) _ _ _ 0 [.int .i64 0] from rfl) (Reps.one (show Kd.M (Kd.int .i64) _ _ _ 1 [.int .i64 1] from rfl) (Reps.one (show Kd.M (Kd.int .i64) _ _ _ 2 [.int .i64 2] from rfl) (Reps.one (show Kd.M (Kd.int .i64) _ _ _ 199 [.int .i64 199] from rfl) (Reps.one (show Kd.M (Kd.int .i64) _ _ _ 200 [.int .i64 200] from rfl) (Reps.none _ _)))))))
    intro v119 w26 ho27 hb hg_ hnew_
    clear hg_ hnew_
    (first | rw [← Ny118.out] at ho27 | (simp only [Int.reduceToNat] at ho27; rw [← Ny118.out] at ho27))
    have n0_ := qM (Kd.R_elder' HO128.out (Kd.R_base ho27) hb)
    have n1_ := qM (Kd.R_lower (Kd.R_new' ho27 (Kd.R_lt HO128.out)) (keep_size (w := w) (g := g) (row := none) HK.out))
    have n2_ := qM (IsS93.below HI0.out hb)
    have n3_ := qM (blk_below (g := gb113) (o := .cells #[.int .i64 0, .int .i64 0, .int .i64 0, .int .i64 0] 53 (0, 0)) BK113.out hb)
    have n4_ := qM (blk_below (g := gb132) (o := .cells #[.int .i64 0, .int .i64 0, .int .i64 0, .int .i64 0] 53 (0, 0)) BK132.out hb)
    have n5_ := qM (KeepBut.trans HK.out (KeepBut.of_below hb g none) (.inl rfl))
    have n6_ := qM (below_step HB.out hb)
    clear HO128 HI0 BK113 BK132 HK HB
    revert n0_ n1_ n2_ n3_ n4_ n5_ n6_
    intro HO128 HO120 HI0 BK113 BK132 HK HB
    clear hb ho27
    obtain ⟨Ao28, co28, eo28⟩ := Kd.R_slice HO120.out
    subst eo28
    obtain ⟨ado28, fo28, _⟩ := Kd.at_int (qR HO120.out).2.2 0 (by decide) (by rw [Ny118.out]; simp)
    cases fo28
    refine hK.out _ _ trivial (fun hHeld => ?_)
    clear hK K
    refine norm_ (a' := ?_) ?_ ?_
    rotate_left
    ·show Act.put _ (some 9) _ = _
     simp only [Act.put, List.setIfInBounds_toArray, List.set_cons_zero, List.set_cons_succ, i64_w, i32_w]
     rfl
    refine pure_ (i := 8) (N := some 12) (v := ?_) (a' := ?_) spec_l31Out.m26 rfl rfl (any_of HT_.out (by kernel_rfl)) (fun _ _ _ h => h) (Or.inl ⟨by rfl, ?_⟩) ?_ ?_
    rotate_left
    ·intro w'
     go_simp
     with_reducible rfl
    rotate_left
    ·simp only [Act.put, List.setIfInBounds_toArray, List.set_cons_zero, List.set_cons_succ, i64_w, i32_w]
     rfl
    exact norm_ (by first | (simp only [putAll, Act.put, List.setIfInBounds_toArray, List.set_cons_zero, List.set_cons_succ]; done) | (simp only [putAll, Act.put, List.setIfInBounds_toArray, List.set_cons_zero, List.set_cons_succ]; rfl)) (hJ1_4_5_7_11_12_18 (.slice (some ado28) y118.length co28, ado28, .slice (some adz_v127) y126.length co25, adz_v127, gb132) _ ⟨(by (with_reducible repeat (first | apply qA | apply qN | apply qD)); exact Kd.R_mono HO120.out (fun _ hk => hk.2)), (by (with_reducible repeat (first | apply qA | apply qN | apply qD)); exact Kd.R_mono HO128.out (fun _ hk => hk.2)), ⟨_, rfl⟩, ⟨_, rfl⟩, BK113.out, BK132.out, GW132.out, GE132.out, NB0_132.out, NB132_0.out, NB113_132.out, NB132_113.out, HI0.out, HK.out, HB.out⟩)
   ·skip
    refine goes_ Try.func53 (by kernel_rfl) rfl #[.pointer (some ⟨g, 0, none⟩), .int .i64 5] (by rfl) rfl rfl (by (try simp only [List.map_toArray, List.map_cons, List.map_nil]); first | done | rfl | (simp only [List.length_drop, List.length_take]; rfl)) ?_
    with_reducible refine (spec_l30Rd_pick.calls k g s0_0 t125 5 t129 t130 w0 _ ?side1 ?side2 A8.out).mono ?_
    (case side1 => repeat (first | (with_reducible first | exact HI0.out | apply IsS93.alloc | apply IsS93.drewN | apply IsS93.drew | apply IsS93.set_1 | refine IsS93.far ?_ NB0_113.out _ | refine IsS93.far ?_ NB0_132.out _) | exact HI0.out))
    (case side2 => repeat (first | (with_reducible first | exact HB.out | apply yA | apply yN | apply yD | refine yS ?_ (IsS93.ge HI0.out) | refine yS ?_ GE113.out | refine yS ?_ GE132.out) | exact HB.out))
    rintro e w26 ⟨rfl, hi, hb, hk⟩
    refine ⟨_, rfl, ?_⟩
    have n0_ := qM (KeepBut.blk hk (g' := gb113) (o := .cells #[.int .i64 0, .int .i64 0, .int .i64 0, .int .i64 0] 53 (0, 0)) BK113.out NB113_0.out (by simp))
    have n1_ := qM (Kd.R_mono (Kd.R_keep (IsS93.apart (show IsS93 w0 _ g s0_0 t125 from by repeat (first | (with_reducible first | exact HI0.out | apply IsS93.alloc | apply IsS93.drewN | apply IsS93.drew | apply IsS93.set_1 | refine IsS93.far ?_ NB0_113.out _ | refine IsS93.far ?_ NB0_132.out _) | exact HI0.out)) HO128.out (by decide)) hk (fun _ h => h.2)) (fun _ h => h.1))
    have n2_ := qM (KeepBut.blk hk (g' := gb132) (o := .cells #[.int .i64 0, .int .i64 0, .int .i64 0, .int .i64 0] 53 (0, 0)) BK132.out NB132_0.out (by simp))
    have n3_ := qM (KeepBut.trans HK.out hk (.inl rfl))
    have n4_ := qM (hb)
    have n5_ := qM (hi)
    clear BK113 HO128 BK132 HK HB HI0
    revert n0_ n1_ n2_ n3_ n4_ n5_
    intro BK113 HO128 BK132 HK HB HI0
    (try clear hb)
    (try clear hb2)
    (try clear hk)
    (try clear hi)
    refine hK.out _ _ trivial (fun hHeld => ?_)
    clear hK K
    refine norm_ (a' := ?_) ?_ ?_
    rotate_left
    ·show Act.put _ (some 18) _ = _
     simp only [Act.put, List.setIfInBounds_toArray, List.set_cons_zero, List.set_cons_succ, i64_w, i32_w]
     rfl
    refine pure_ (i := 15) (N := some 19) (v := ?_) (a' := ?_) spec_l31Out.m31 rfl rfl (any_of HT_.out (by kernel_rfl)) (fun _ _ _ h => h) (Or.inl ⟨by rfl, ?_⟩) ?_ ?_
    rotate_left
    ·intro w'
     go_simp
     with_reducible rfl
    rotate_left
    ·simp only [Act.put, List.setIfInBounds_toArray, List.set_cons_zero, List.set_cons_succ, i64_w, i32_w]
     rfl
    exact norm_ (by first | (simp only [putAll, Act.put, List.setIfInBounds_toArray, List.set_cons_zero, List.set_cons_succ]; done) | (simp only [putAll, Act.put, List.setIfInBounds_toArray, List.set_cons_zero, List.set_cons_succ]; rfl)) (hJ1_4_7_11_12_14_18 (.slice (some adz_v127) y126.length co25, adz_v127, gb132) _ ⟨HO128.out, ⟨_, rfl⟩, BK113.out, BK132.out, GW132.out, GE132.out, NB0_132.out, NB132_0.out, NB113_132.out, NB132_113.out, HI0.out, HK.out, HB.out⟩)
set_option maxHeartbeats 8000000 in
set_option maxRecDepth 100000 in
theorem spec_l31Out.j1_4_7_11_14_18 (k g : Nat) (s0_0 : List Int) (s0_1 : Int) (w0 w : World) (gb113 : Nat) (t114 t115 t116 t117 t121 t122 t124 t125 t129 t130 : Int) (y118 y126 : List Int) (K : Act → World → Prop) (post : Ending → World → Prop) (hC : spec_l31Out.CX k g s0_0 s0_1 w0 w gb113 t114 t115 t116 t117 t121 t122 t124 t125 t129 t130 y118 y126) (hJ1_4_5_7_11_14_18 : spec_l31Out.J1_4_5_7_11_14_18 k g s0_0 s0_1 w0 w gb113 t114 t115 t116 t117 t121 t122 t124 t125 t129 t130 y118 y126 K post) (hJ1_4_7_11_12_14_18 : spec_l31Out.J1_4_7_11_12_14_18 k g s0_0 s0_1 w0 w gb113 t114 t115 t116 t117 t121 t122 t124 t125 t129 t130 y118 y126 K post) : spec_l31Out.J1_4_7_11_14_18 k g s0_0 s0_1 w0 w gb113 t114 t115 t116 t117 t121 t122 t124 t125 t129 t130 y118 y126 K post := by
 obtain ⟨HW0, A2, A3, Ny118, A4, A7, Ny126, A8, GW113, GE113, NB0_113, NB113_0, c5b0, c6b0, c9b0, c10b0⟩ := hC
 have HT_ := qM spec_l31Out.tabO
 have HW_ := qM spec_l31Out.bits1
 have pi123 : (0 ≤ (t121 : Int)) = True := eq_true (of_decide_eq_true c5b0)
 have qi123 : (t121 < (y118.length : Int)) = True := eq_true (of_decide_eq_true c6b0)
 have pi131 : (0 ≤ (t129 : Int)) = True := eq_true (of_decide_eq_true c9b0)
 have qi131 : (t129 < (y126.length : Int)) = True := eq_true (of_decide_eq_true c10b0)
 unfold spec_l31Out.J1_4_5_7_11_14_18 spec_l31Out.FR spec_l31Out.OPS at hJ1_4_5_7_11_14_18
 unfold spec_l31Out.J1_4_7_11_12_14_18 spec_l31Out.FR spec_l31Out.OPS at hJ1_4_7_11_12_14_18
 unfold spec_l31Out.J1_4_7_11_14_18 spec_l31Out.FR spec_l31Out.OPS
 ··skip
   rintro gb132 w22 ⟨h0_, h1_, h2_, h3_, h4_, h5_, h6_, h7_, h8_, h9_, h10_⟩
   have n0_ : Aside0 (w22.heap[gb113]? = some (.cells #[.int .i64 0, .int .i64 0, .int .i64 0, .int .i64 0] 53 (0, 0))) := ⟨h0_⟩
   have n1_ : Aside0 (w22.heap[gb132]? = some (.cells #[.int .i64 0, .int .i64 0, .int .i64 0, .int .i64 0] 53 (0, 0))) := ⟨h1_⟩
   have n2_ : Aside0 (w.heap.size ≤ gb132) := ⟨h2_⟩
   have n3_ : Aside0 (w0.heap.size ≤ gb132) := ⟨h3_⟩
   have n4_ : Aside0 (g ≠ gb132) := ⟨h4_⟩
   have n5_ : Aside0 (gb132 ≠ g) := ⟨h5_⟩
   have n6_ : Aside0 (gb113 ≠ gb132) := ⟨h6_⟩
   have n7_ : Aside0 (gb132 ≠ gb113) := ⟨h7_⟩
   have n8_ : Aside0 (IsS93 w0 w22 g s0_0 t130) := ⟨h8_⟩
   have n9_ : Aside0 (KeepBut w w22 g none) := ⟨h9_⟩
   have n10_ : Aside0 (Below w0.heap.size w0 w22) := ⟨h10_⟩
   clear h0_ h1_ h2_ h3_ h4_ h5_ h6_ h7_ h8_ h9_ h10_
   revert n0_ n1_ n2_ n3_ n4_ n5_ n6_ n7_ n8_ n9_ n10_
   intro BK113 BK132 GW132 GE132 NB0_132 NB132_0 NB113_132 NB132_113 HI0 HK HB
   have hHeld := trivial
   refine norm_ (a' := ?_) ?_ ?_
   rotate_left
   ·simp only [putAll, Act.put, List.setIfInBounds_toArray, List.set_cons_zero, List.set_cons_succ]
    rfl
   refine two_ (i := 5) (j := 12) (Ni := some 9) (Nj := some 16) spec_l31Out.m45 spec_l31Out.m43 rfl rfl rfl rfl (two_of HT_.out (by kernel_rfl)) (by decide) (by decide) (fun K hK => ?_) (fun K hK => ?_)
   ·skip
    refine Kd.R_lit_step (Kd.int .i64) _ 3 ?hg (N := 9) ?hd (xs := ([0, 1, 2, 199, 200] : List Int)) (inner := [.int .i64 0, .int .i64 1, .int .i64 2, .int .i64 199, .int .i64 200]) (ok := fun _ => True) (okp := fun _ => True) ?hr ?hp (fun _ hk => hk) trivial (Below.refl _ _) (Nat.le_refl _) (by simp) ?_; (case hd => rfl); (case hg => rfl); (case hr => first | (go_simp; done) | (go_simp; rfl)); (case hp => exact (Reps.one (show Kd.M (Kd.int .i64) _ _ _ 0 [.int .i64 0] from rfl) (Reps.one (show Kd.M (Kd.int .i64) _ _ _ 1 [.int .i64 1] from rfl) (Reps.one (show Kd.M (Kd.int .i64) _ _ _ 2 [.int .i64 2] from rfl) (Reps.one (show Kd.M (Kd.int .i64) _ _ _ 199 [.int .i64 199] from rfl) (Reps.one (show Kd.M (Kd.int .i64) _ _ _ 200 [.int .i64 200] from rfl) (Reps.none _ _)))))))
    intro v119 w23 ho24 hb hg_ hnew_
    clear hg_ hnew_
    (first | rw [← Ny118.out] at ho24 | (simp only [Int.reduceToNat] at ho24; rw [← Ny118.out] at ho24))
    have n0_ := qM (Kd.R_lower ho24 (keep_size (w := w) (g := g) (row := none) HK.out))
    have n1_ := qM (IsS93.below HI0.out hb)
    have n2_ := qM (blk_below (g := gb113) (o := .cells #[.int .i64 0, .int .i64 0, .int .i64 0, .int .i64 0] 53 (0, 0)) BK113.out hb)
    have n3_ := qM (blk_below (g := gb132) (o := .cells #[.int .i64 0, .int .i64 0, .int .i64 0, .int .i64 0] 53 (0, 0)) BK132.out hb)
    have n4_ := qM (KeepBut.trans HK.out (KeepBut.of_below hb g none) (.inl rfl))
    have n5_ := qM (below_step HB.out hb)
    clear HI0 BK113 BK132 HK HB
    revert n0_ n1_ n2_ n3_ n4_ n5_
    intro HO120 HI0 BK113 BK132 HK HB
    clear hb ho24
    obtain ⟨Ao25, co25, eo25⟩ := Kd.R_slice HO120.out
    subst eo25
    obtain ⟨ado25, fo25, _⟩ := Kd.at_int (qR HO120.out).2.2 0 (by decide) (by rw [Ny118.out]; simp)
    cases fo25
    refine hK.out _ _ trivial (fun hHeld => ?_)
    clear hK K
    refine norm_ (a' := ?_) ?_ ?_
    rotate_left
    ·show Act.put _ (some 9) _ = _
     simp only [Act.put, List.setIfInBounds_toArray, List.set_cons_zero, List.set_cons_succ, i64_w, i32_w]
     rfl
    refine pure_ (i := 8) (N := some 12) (v := ?_) (a' := ?_) spec_l31Out.m28 rfl rfl (any_of HT_.out (by kernel_rfl)) (fun _ _ _ h => h) (Or.inl ⟨by rfl, ?_⟩) ?_ ?_
    rotate_left
    ·intro w'
     go_simp
     with_reducible rfl
    rotate_left
    ·simp only [Act.put, List.setIfInBounds_toArray, List.set_cons_zero, List.set_cons_succ, i64_w, i32_w]
     rfl
    exact norm_ (by first | (simp only [putAll, Act.put, List.setIfInBounds_toArray, List.set_cons_zero, List.set_cons_succ]; done) | (simp only [putAll, Act.put, List.setIfInBounds_toArray, List.set_cons_zero, List.set_cons_succ]; rfl)) (hJ1_4_5_7_11_14_18 (.slice (some ado25) y118.length co25, ado25, gb132) _ ⟨HO120.out, ⟨_, rfl⟩, BK113.out, BK132.out, GW132.out, GE132.out, NB0_132.out, NB132_0.out, NB113_132.out, NB132_113.out, HI0.out, HK.out, HB.out⟩)
   ·skip
    refine Kd.R_lit_step (Kd.int .i64) _ 3 ?hg (N := 16) ?hd (xs := ([0, 1, 14, 15, t124] : List Int)) (inner := [.int .i64 0, .int .i64 1, .int .i64 14, .int .i64 15, .int .i64 t124]) (ok := fun _ => True) (okp := fun _ => True) ?hr ?hp (fun _ hk => hk) trivial (Below.refl _ _) (Nat.le_refl _) (by simp) ?_; (case hd => rfl); (case hg => rfl); (case hr => first | (go_simp; done) | (go_simp; rfl)); (case hp => exact (Reps.one (show Kd.M (Kd.int .i64) _ _ _ 0 [.int .i64 0] from rfl) (Reps.one (show Kd.M (Kd.int .i64) _ _ _ 1 [.int .i64 1] from rfl) (Reps.one (show Kd.M (Kd.int .i64) _ _ _ 14 [.int .i64 14] from rfl) (Reps.one (show Kd.M (Kd.int .i64) _ _ _ 15 [.int .i64 15] from rfl) (Reps.one (show Kd.M (Kd.int .i64) _ _ _ t124 [.int .i64 t124] from rfl) (Reps.none _ _)))))))
    intro v127 w23 ho24 hb hg_ hnew_
    clear hg_ hnew_
    (first | rw [← Ny126.out] at ho24 | (simp only [Int.reduceToNat] at ho24; rw [← Ny126.out] at ho24))
    have n0_ := qM (Kd.R_lower ho24 (keep_size (w := w) (g := g) (row := none) HK.out))
    have n1_ := qM (IsS93.below HI0.out hb)
    have n2_ := qM (blk_below (g := gb113) (o := .cells #[.int .i64 0, .int .i64 0, .int .i64 0, .int .i64 0] 53 (0, 0)) BK113.out hb)
    have n3_ := qM (blk_below (g := gb132) (o := .cells #[.int .i64 0, .int .i64 0, .int .i64 0, .int .i64 0] 53 (0, 0)) BK132.out hb)
    have n4_ := qM (KeepBut.trans HK.out (KeepBut.of_below hb g none) (.inl rfl))
    have n5_ := qM (below_step HB.out hb)
    clear HI0 BK113 BK132 HK HB
    revert n0_ n1_ n2_ n3_ n4_ n5_
    intro HO128 HI0 BK113 BK132 HK HB
    clear hb ho24
    obtain ⟨Ao25, co25, eo25⟩ := Kd.R_slice HO128.out
    subst eo25
    obtain ⟨ado25, fo25, _⟩ := Kd.at_int (qR HO128.out).2.2 0 (by decide) (by rw [Ny126.out]; simp)
    cases fo25
    refine hK.out _ _ trivial (fun hHeld => ?_)
    clear hK K
    refine norm_ (a' := ?_) ?_ ?_
    rotate_left
    ·show Act.put _ (some 16) _ = _
     simp only [Act.put, List.setIfInBounds_toArray, List.set_cons_zero, List.set_cons_succ, i64_w, i32_w]
     rfl
    refine pure_ (i := 15) (N := some 19) (v := ?_) (a' := ?_) spec_l31Out.m31 rfl rfl (any_of HT_.out (by kernel_rfl)) (fun _ _ _ h => h) (Or.inl ⟨by rfl, ?_⟩) ?_ ?_
    rotate_left
    ·intro w'
     go_simp
     with_reducible rfl
    rotate_left
    ·simp only [Act.put, List.setIfInBounds_toArray, List.set_cons_zero, List.set_cons_succ, i64_w, i32_w]
     rfl
    exact norm_ (by first | (simp only [putAll, Act.put, List.setIfInBounds_toArray, List.set_cons_zero, List.set_cons_succ]; done) | (simp only [putAll, Act.put, List.setIfInBounds_toArray, List.set_cons_zero, List.set_cons_succ]; rfl)) (hJ1_4_7_11_12_14_18 (.slice (some ado25) y126.length co25, ado25, gb132) _ ⟨HO128.out, ⟨_, rfl⟩, BK113.out, BK132.out, GW132.out, GE132.out, NB0_132.out, NB132_0.out, NB113_132.out, NB132_113.out, HI0.out, HK.out, HB.out⟩)
set_option maxHeartbeats 8000000 in
set_option maxRecDepth 100000 in
theorem spec_l31Out.j1_4_5_7_9 (k g : Nat) (s0_0 : List Int) (s0_1 : Int) (w0 w : World) (gb113 : Nat) (t114 t115 t116 t117 t121 t122 t124 t125 t129 t130 : Int) (y118 y126 : List Int) (K : Act → World → Prop) (post : Ending → World → Prop) (hC : spec_l31Out.CX k g s0_0 s0_1 w0 w gb113 t114 t115 t116 t117 t121 t122 t124 t125 t129 t130 y118 y126) (hJ1_4_5_7_9_11 : spec_l31Out.J1_4_5_7_9_11 k g s0_0 s0_1 w0 w gb113 t114 t115 t116 t117 t121 t122 t124 t125 t129 t130 y118 y126 K post) (hJ1_4_5_7_9_18 : spec_l31Out.J1_4_5_7_9_18 k g s0_0 s0_1 w0 w gb113 t114 t115 t116 t117 t121 t122 t124 t125 t129 t130 y118 y126 K post) : spec_l31Out.J1_4_5_7_9 k g s0_0 s0_1 w0 w gb113 t114 t115 t116 t117 t121 t122 t124 t125 t129 t130 y118 y126 K post := by
 obtain ⟨HW0, A2, A3, Ny118, A4, A7, Ny126, A8, GW113, GE113, NB0_113, NB113_0, c5b0, c6b0, c9b0, c10b0⟩ := hC
 have HT_ := qM spec_l31Out.tabO
 have HW_ := qM spec_l31Out.bits1
 have pi123 : (0 ≤ (t121 : Int)) = True := eq_true (of_decide_eq_true c5b0)
 have qi123 : (t121 < (y118.length : Int)) = True := eq_true (of_decide_eq_true c6b0)
 have pi131 : (0 ≤ (t129 : Int)) = True := eq_true (of_decide_eq_true c9b0)
 have qi131 : (t129 < (y126.length : Int)) = True := eq_true (of_decide_eq_true c10b0)
 unfold spec_l31Out.J1_4_5_7_9_11 spec_l31Out.FR spec_l31Out.OPS at hJ1_4_5_7_9_11
 unfold spec_l31Out.J1_4_5_7_9_18 spec_l31Out.FR spec_l31Out.OPS at hJ1_4_5_7_9_18
 unfold spec_l31Out.J1_4_5_7_9 spec_l31Out.FR spec_l31Out.OPS
 ··skip
   rintro ⟨v119, adz_v119⟩ w22 ⟨h0_, h1_, h2_, h3_, h4_, h5_⟩
   have n0_ : Aside0 (Kd.R (Kd.int .i64) 3 w22 w.heap.size (fun _ => True) v119 y118) := ⟨h0_⟩
   have n1_ : Aside0 (∃ c_, (v119 : Value) = .slice (some adz_v119) y118.length c_) := ⟨h1_⟩
   have n2_ : Aside0 (w22.heap[gb113]? = some (.cells #[.int .i64 0, .int .i64 0, .int .i64 0, .int .i64 0] 53 (0, 0))) := ⟨h2_⟩
   have n3_ : Aside0 (IsS93 w0 w22 g s0_0 t122) := ⟨h3_⟩
   have n4_ : Aside0 (KeepBut w w22 g none) := ⟨h4_⟩
   have n5_ : Aside0 (Below w0.heap.size w0 w22) := ⟨h5_⟩
   clear h0_ h1_ h2_ h3_ h4_ h5_
   revert n0_ n1_ n2_ n3_ n4_ n5_
   intro HO120 HA_HO120 BK113 HI0 HK HB
   have hHeld := trivial
   obtain ⟨co23, eo23⟩ := HA_HO120.out
   clear HA_HO120
   subst eo23
   refine norm_ (a' := ?_) ?_ ?_
   rotate_left
   ·simp only [putAll, Act.put, List.setIfInBounds_toArray, List.set_cons_zero, List.set_cons_succ]
    rfl
   refine two_ (i := 11) (j := 18) (Ni := some 15) (Nj := some 3) spec_l31Out.m33 spec_l31Out.m34 rfl rfl rfl rfl (two_of HT_.out (by kernel_rfl)) (by decide) (by decide) (fun K hK => ?_) (fun K hK => ?_)
   ·skip
    refine goes_ Try.func53 (by kernel_rfl) rfl #[.pointer (some ⟨g, 0, none⟩), .int .i64 16] (by rfl) rfl rfl (by (try simp only [List.map_toArray, List.map_cons, List.map_nil]); first | done | rfl | (simp only [List.length_drop, List.length_take]; rfl)) ?_
    with_reducible refine (spec_l30Rd_pick.calls k g s0_0 t122 16 t124 t125 w0 _ ?side1 ?side2 A7.out).mono ?_
    (case side1 => repeat (first | (with_reducible first | exact HI0.out | apply IsS93.alloc | apply IsS93.drewN | apply IsS93.drew | apply IsS93.set_1 | refine IsS93.far ?_ NB0_113.out _) | exact HI0.out))
    (case side2 => repeat (first | (with_reducible first | exact HB.out | apply yA | apply yN | apply yD | refine yS ?_ (IsS93.ge HI0.out) | refine yS ?_ GE113.out) | exact HB.out))
    rintro e w24 ⟨rfl, hi, hb, hk⟩
    refine ⟨_, rfl, ?_⟩
    have n0_ := qM (KeepBut.blk hk (g' := gb113) (o := .cells #[.int .i64 0, .int .i64 0, .int .i64 0, .int .i64 0] 53 (0, 0)) BK113.out NB113_0.out (by simp))
    have n1_ := qM (Kd.R_mono (Kd.R_keep (IsS93.apart (show IsS93 w0 _ g s0_0 t122 from by repeat (first | (with_reducible first | exact HI0.out | apply IsS93.alloc | apply IsS93.drewN | apply IsS93.drew | apply IsS93.set_1 | refine IsS93.far ?_ NB0_113.out _) | exact HI0.out)) HO120.out (by decide)) hk (fun _ h => h.2)) (fun _ h => h.1))
    have n2_ := qM (KeepBut.trans HK.out hk (.inl rfl))
    have n3_ := qM (hb)
    have n4_ := qM (hi)
    clear BK113 HO120 HK HB HI0
    revert n0_ n1_ n2_ n3_ n4_
    intro BK113 HO120 HK HB HI0
    (try clear hb)
    (try clear hb2)
    (try clear hk)
    (try clear hi)
    refine hK.out _ _ trivial (fun hHeld => ?_)
    clear hK K
    refine norm_ (a' := ?_) ?_ ?_
    rotate_left
    ·show Act.put _ (some 15) _ = _
     simp only [Act.put, List.setIfInBounds_toArray, List.set_cons_zero, List.set_cons_succ, i64_w, i32_w]
     rfl
    exact norm_ (by first | (simp only [putAll, Act.put, List.setIfInBounds_toArray, List.set_cons_zero, List.set_cons_succ]; done) | (simp only [putAll, Act.put, List.setIfInBounds_toArray, List.set_cons_zero, List.set_cons_succ]; rfl)) (hJ1_4_5_7_9_11 (.slice (some adz_v119) y118.length co23, adz_v119) _ ⟨HO120.out, ⟨_, rfl⟩, BK113.out, HI0.out, HK.out, HB.out⟩)
   ·skip
    refine box_step ?hg (N := 3) ?hd (cs := #[.int .i64 0, .int .i64 0, .int .i64 0, .int .i64 0]) (t := 53) ?hr ?_; (case hd => rfl); (case hg => rfl); (case hr => first | (go_simp; done) | (go_simp; rfl))
    intro gb132 hg w24 hbox hb
    have n0_ := qM (Kd.R_below HO120.out hb)
    have n1_ := qM (IsS93.below HI0.out hb)
    have n2_ := qM (blk_below (g := gb113) (o := .cells #[.int .i64 0, .int .i64 0, .int .i64 0, .int .i64 0] 53 (0, 0)) BK113.out hb)
    have n3_ := qM (KeepBut.trans HK.out (KeepBut.of_below hb g none) (.inl rfl))
    have n4_ := qM (below_step HB.out hb)
    have n5_ := qM (hbox)
    have n6_ := qM ((by rw [hg]; exact (keep_size (w := w) (g := g) (row := none) HK.out) : w.heap.size ≤ gb132))
    have n7_ := qM ((Nat.le_trans HW0.out (by rw [hg]; exact (keep_size (w := w) (g := g) (row := none) HK.out) : w.heap.size ≤ gb132) : w0.heap.size ≤ gb132))
    have n8_ := qM ((by rw [hg]; exact Nat.ne_of_lt (blk_lt (g := gb113) (o := .cells #[.int .i64 0, .int .i64 0, .int .i64 0, .int .i64 0] 53 (0, 0)) BK113.out) : gb113 ≠ gb132))
    have n9_ := qM ((by rw [hg]; exact Nat.ne_of_gt (blk_lt (g := gb113) (o := .cells #[.int .i64 0, .int .i64 0, .int .i64 0, .int .i64 0] 53 (0, 0)) BK113.out) : gb132 ≠ gb113))
    have n10_ := qM ((by rw [hg]; exact Nat.ne_of_lt (IsS93.lt (show IsS93 w0 _ g s0_0 t122 from by repeat (first | (with_reducible first | exact HI0.out | apply IsS93.alloc | apply IsS93.drewN | apply IsS93.drew | apply IsS93.set_1 | refine IsS93.far ?_ NB0_113.out _) | exact HI0.out))) : g ≠ gb132))
    have n11_ := qM ((by rw [hg]; exact Nat.ne_of_gt (IsS93.lt (show IsS93 w0 _ g s0_0 t122 from by repeat (first | (with_reducible first | exact HI0.out | apply IsS93.alloc | apply IsS93.drewN | apply IsS93.drew | apply IsS93.set_1 | refine IsS93.far ?_ NB0_113.out _) | exact HI0.out))) : gb132 ≠ g))
    clear HO120 HI0 BK113 HK HB
    revert n0_ n1_ n2_ n3_ n4_ n5_ n6_ n7_ n8_ n9_ n10_ n11_
    intro HO120 HI0 BK113 HK HB BK132 GW132 GE132 NB113_132 NB132_113 NB0_132 NB132_0
    clear hb hbox hg
    refine hK.out _ _ trivial (fun hHeld => ?_)
    clear hK K
    refine norm_ (a' := ?_) ?_ ?_
    rotate_left
    ·show Act.put _ (some 3) _ = _
     simp only [Act.put, List.setIfInBounds_toArray, List.set_cons_zero, List.set_cons_succ, i64_w, i32_w]
     rfl
    exact norm_ (by first | (simp only [putAll, Act.put, List.setIfInBounds_toArray, List.set_cons_zero, List.set_cons_succ]; done) | (simp only [putAll, Act.put, List.setIfInBounds_toArray, List.set_cons_zero, List.set_cons_succ]; rfl)) (hJ1_4_5_7_9_18 (.slice (some adz_v119) y118.length co23, adz_v119, gb132) _ ⟨HO120.out, ⟨_, rfl⟩, BK113.out, BK132.out, GW132.out, GE132.out, NB0_132.out, NB132_0.out, NB113_132.out, NB132_113.out, HI0.out, HK.out, HB.out⟩)
set_option maxHeartbeats 8000000 in
set_option maxRecDepth 100000 in
theorem spec_l31Out.j1_4_5_7_11 (k g : Nat) (s0_0 : List Int) (s0_1 : Int) (w0 w : World) (gb113 : Nat) (t114 t115 t116 t117 t121 t122 t124 t125 t129 t130 : Int) (y118 y126 : List Int) (K : Act → World → Prop) (post : Ending → World → Prop) (hC : spec_l31Out.CX k g s0_0 s0_1 w0 w gb113 t114 t115 t116 t117 t121 t122 t124 t125 t129 t130 y118 y126) (hJ1_4_5_7_9_11 : spec_l31Out.J1_4_5_7_9_11 k g s0_0 s0_1 w0 w gb113 t114 t115 t116 t117 t121 t122 t124 t125 t129 t130 y118 y126 K post) (hJ1_4_5_7_11_12 : spec_l31Out.J1_4_5_7_11_12 k g s0_0 s0_1 w0 w gb113 t114 t115 t116 t117 t121 t122 t124 t125 t129 t130 y118 y126 K post) (hJ1_4_5_7_11_14 : spec_l31Out.J1_4_5_7_11_14 k g s0_0 s0_1 w0 w gb113 t114 t115 t116 t117 t121 t122 t124 t125 t129 t130 y118 y126 K post) (hJ1_4_5_7_11_18 : spec_l31Out.J1_4_5_7_11_18 k g s0_0 s0_1 w0 w gb113 t114 t115 t116 t117 t121 t122 t124 t125 t129 t130 y118 y126 K post) : spec_l31Out.J1_4_5_7_11 k g s0_0 s0_1 w0 w gb113 t114 t115 t116 t117 t121 t122 t124 t125 t129 t130 y118 y126 K post := by
 obtain ⟨HW0, A2, A3, Ny118, A4, A7, Ny126, A8, GW113, GE113, NB0_113, NB113_0, c5b0, c6b0, c9b0, c10b0⟩ := hC
 have HT_ := qM spec_l31Out.tabO
 have HW_ := qM spec_l31Out.bits1
 have pi123 : (0 ≤ (t121 : Int)) = True := eq_true (of_decide_eq_true c5b0)
 have qi123 : (t121 < (y118.length : Int)) = True := eq_true (of_decide_eq_true c6b0)
 have pi131 : (0 ≤ (t129 : Int)) = True := eq_true (of_decide_eq_true c9b0)
 have qi131 : (t129 < (y126.length : Int)) = True := eq_true (of_decide_eq_true c10b0)
 unfold spec_l31Out.J1_4_5_7_9_11 spec_l31Out.FR spec_l31Out.OPS at hJ1_4_5_7_9_11
 unfold spec_l31Out.J1_4_5_7_11_12 spec_l31Out.FR spec_l31Out.OPS at hJ1_4_5_7_11_12
 unfold spec_l31Out.J1_4_5_7_11_14 spec_l31Out.FR spec_l31Out.OPS at hJ1_4_5_7_11_14
 unfold spec_l31Out.J1_4_5_7_11_18 spec_l31Out.FR spec_l31Out.OPS at hJ1_4_5_7_11_18
 unfold spec_l31Out.J1_4_5_7_11 spec_l31Out.FR spec_l31Out.OPS
 ··skip
   rintro ⟨v119, adz_v119⟩ w23 ⟨h0_, h1_, h2_, h3_, h4_, h5_⟩
   have n0_ : Aside0 (Kd.R (Kd.int .i64) 3 w23 w.heap.size (fun _ => True) v119 y118) := ⟨h0_⟩
   have n1_ : Aside0 (∃ c_, (v119 : Value) = .slice (some adz_v119) y118.length c_) := ⟨h1_⟩
   have n2_ : Aside0 (w23.heap[gb113]? = some (.cells #[.int .i64 0, .int .i64 0, .int .i64 0, .int .i64 0] 53 (0, 0))) := ⟨h2_⟩
   have n3_ : Aside0 (IsS93 w0 w23 g s0_0 t125) := ⟨h3_⟩
   have n4_ : Aside0 (KeepBut w w23 g none) := ⟨h4_⟩
   have n5_ : Aside0 (Below w0.heap.size w0 w23) := ⟨h5_⟩
   clear h0_ h1_ h2_ h3_ h4_ h5_
   revert n0_ n1_ n2_ n3_ n4_ n5_
   intro HO120 HA_HO120 BK113 HI0 HK HB
   have hHeld := trivial
   obtain ⟨co24, eo24⟩ := HA_HO120.out
   clear HA_HO120
   subst eo24
   refine norm_ (a' := ?_) ?_ ?_
   rotate_left
   ·simp only [putAll, Act.put, List.setIfInBounds_toArray, List.set_cons_zero, List.set_cons_succ]
    rfl
   refine four_ (i := 9) (j := 12) (k := 14) (m := 18) (Ni := some 13) (Nj := some 16) (Nk := some 18) (Nm := some 3) spec_l31Out.m33 spec_l31Out.m35 spec_l31Out.m37 spec_l31Out.m38 rfl rfl rfl rfl rfl rfl rfl rfl (four_of HT_.out (by kernel_rfl)) (by decide) (by decide) (by decide) (by decide) (fun K hK => ?_) (fun K hK => ?_) (fun K hK => ?_) (fun K hK => ?_)
   ·skip
    (have p123 : 0 ≤ (t121 : Int) := of_decide_eq_true (by first | (with_reducible assumption) | assumption); have q123 : t121 < (y118.length : Int) := of_decide_eq_true (by first | (with_reducible assumption) | assumption); obtain ⟨ad123, e123, hx123_0⟩ := Kd.at_int (qR HO120.out).2.2 t121 p123 q123; obtain rfl : adz_v119 = ad123 := (by injection e123))
    refine value_ (w1 := ?_) (v := ?_) (by rfl) rfl ?_ ?_
    rotate_left 2
    ·go_simp
     constructor
     ·rfl
     ·rfl
    clear hx123_0
    refine hK.out _ _ trivial (fun hHeld => ?_)
    clear hK K
    refine norm_ (a' := ?_) ?_ ?_
    rotate_left
    ·show Act.put _ (some 13) _ = _
     simp only [Act.put, List.setIfInBounds_toArray, List.set_cons_zero, List.set_cons_succ, i64_w, i32_w]
     rfl
    exact norm_ (by first | (simp only [putAll, Act.put, List.setIfInBounds_toArray, List.set_cons_zero, List.set_cons_succ]; done) | (simp only [putAll, Act.put, List.setIfInBounds_toArray, List.set_cons_zero, List.set_cons_succ]; rfl)) (hJ1_4_5_7_9_11 (.slice (some adz_v119) y118.length co24, adz_v119) _ ⟨HO120.out, ⟨_, rfl⟩, BK113.out, HI0.out, HK.out, HB.out⟩)
   ·skip
    refine Kd.R_lit_step (Kd.int .i64) _ 3 ?hg (N := 16) ?hd (xs := ([0, 1, 14, 15, t124] : List Int)) (inner := [.int .i64 0, .int .i64 1, .int .i64 14, .int .i64 15, .int .i64 t124]) (ok := fun _ => True) (okp := fun _ => True) ?hr ?hp (fun _ hk => hk) trivial (Below.refl _ _) (Nat.le_refl _) (by simp) ?_; (case hd => rfl); (case hg => rfl); (case hr => first | (go_simp; done) | (go_simp; rfl)); (case hp => exact (Reps.one (show Kd.M (Kd.int .i64) _ _ _ 0 [.int .i64 0] from rfl) (Reps.one (show Kd.M (Kd.int .i64) _ _ _ 1 [.int .i64 1] from rfl) (Reps.one (show Kd.M (Kd.int .i64) _ _ _ 14 [.int .i64 14] from rfl) (Reps.one (show Kd.M (Kd.int .i64) _ _ _ 15 [.int .i64 15] from rfl) (Reps.one (show Kd.M (Kd.int .i64) _ _ _ t124 [.int .i64 t124] from rfl) (Reps.none _ _)))))))
    intro v127 w25 ho26 hb hg_ hnew_
    clear hg_ hnew_
    (first | rw [← Ny126.out] at ho26 | (simp only [Int.reduceToNat] at ho26; rw [← Ny126.out] at ho26))
    have n0_ := qM (Kd.R_elder' HO120.out (Kd.R_base ho26) hb)
    have n1_ := qM (Kd.R_lower (Kd.R_new' ho26 (Kd.R_lt HO120.out)) (keep_size (w := w) (g := g) (row := none) HK.out))
    have n2_ := qM (IsS93.below HI0.out hb)
    have n3_ := qM (blk_below (g := gb113) (o := .cells #[.int .i64 0, .int .i64 0, .int .i64 0, .int .i64 0] 53 (0, 0)) BK113.out hb)
    have n4_ := qM (KeepBut.trans HK.out (KeepBut.of_below hb g none) (.inl rfl))
    have n5_ := qM (below_step HB.out hb)
    clear HO120 HI0 BK113 HK HB
    revert n0_ n1_ n2_ n3_ n4_ n5_
    intro HO120 HO128 HI0 BK113 HK HB
    clear hb ho26
    obtain ⟨Ao27, co27, eo27⟩ := Kd.R_slice HO128.out
    subst eo27
    obtain ⟨ado27, fo27, _⟩ := Kd.at_int (qR HO128.out).2.2 0 (by decide) (by rw [Ny126.out]; simp)
    cases fo27
    refine hK.out _ _ trivial (fun hHeld => ?_)
    clear hK K
    refine norm_ (a' := ?_) ?_ ?_
    rotate_left
    ·show Act.put _ (some 16) _ = _
     simp only [Act.put, List.setIfInBounds_toArray, List.set_cons_zero, List.set_cons_succ, i64_w, i32_w]
     rfl
    exact norm_ (by first | (simp only [putAll, Act.put, List.setIfInBounds_toArray, List.set_cons_zero, List.set_cons_succ]; done) | (simp only [putAll, Act.put, List.setIfInBounds_toArray, List.set_cons_zero, List.set_cons_succ]; rfl)) (hJ1_4_5_7_11_12 (.slice (some adz_v119) y118.length co24, adz_v119, .slice (some ado27) y126.length co27, ado27) _ ⟨(by (with_reducible repeat (first | apply qA | apply qN | apply qD)); exact Kd.R_mono HO120.out (fun _ hk => hk.2)), (by (with_reducible repeat (first | apply qA | apply qN | apply qD)); exact Kd.R_mono HO128.out (fun _ hk => hk.2)), ⟨_, rfl⟩, ⟨_, rfl⟩, BK113.out, HI0.out, HK.out, HB.out⟩)
   ·skip
    refine goes_ Try.func53 (by kernel_rfl) rfl #[.pointer (some ⟨g, 0, none⟩), .int .i64 5] (by rfl) rfl rfl (by (try simp only [List.map_toArray, List.map_cons, List.map_nil]); first | done | rfl | (simp only [List.length_drop, List.length_take]; rfl)) ?_
    with_reducible refine (spec_l30Rd_pick.calls k g s0_0 t125 5 t129 t130 w0 _ ?side1 ?side2 A8.out).mono ?_
    (case side1 => repeat (first | (with_reducible first | exact HI0.out | apply IsS93.alloc | apply IsS93.drewN | apply IsS93.drew | apply IsS93.set_1 | refine IsS93.far ?_ NB0_113.out _) | exact HI0.out))
    (case side2 => repeat (first | (with_reducible first | exact HB.out | apply yA | apply yN | apply yD | refine yS ?_ (IsS93.ge HI0.out) | refine yS ?_ GE113.out) | exact HB.out))
    rintro e w25 ⟨rfl, hi, hb, hk⟩
    refine ⟨_, rfl, ?_⟩
    have n0_ := qM (KeepBut.blk hk (g' := gb113) (o := .cells #[.int .i64 0, .int .i64 0, .int .i64 0, .int .i64 0] 53 (0, 0)) BK113.out NB113_0.out (by simp))
    have n1_ := qM (Kd.R_mono (Kd.R_keep (IsS93.apart (show IsS93 w0 _ g s0_0 t125 from by repeat (first | (with_reducible first | exact HI0.out | apply IsS93.alloc | apply IsS93.drewN | apply IsS93.drew | apply IsS93.set_1 | refine IsS93.far ?_ NB0_113.out _) | exact HI0.out)) HO120.out (by decide)) hk (fun _ h => h.2)) (fun _ h => h.1))
    have n2_ := qM (KeepBut.trans HK.out hk (.inl rfl))
    have n3_ := qM (hb)
    have n4_ := qM (hi)
    clear BK113 HO120 HK HB HI0
    revert n0_ n1_ n2_ n3_ n4_
    intro BK113 HO120 HK HB HI0
    (try clear hb)
    (try clear hb2)
    (try clear hk)
    (try clear hi)
    refine hK.out _ _ trivial (fun hHeld => ?_)
    clear hK K
    refine norm_ (a' := ?_) ?_ ?_
    rotate_left
    ·show Act.put _ (some 18) _ = _
     simp only [Act.put, List.setIfInBounds_toArray, List.set_cons_zero, List.set_cons_succ, i64_w, i32_w]
     rfl
    exact norm_ (by first | (simp only [putAll, Act.put, List.setIfInBounds_toArray, List.set_cons_zero, List.set_cons_succ]; done) | (simp only [putAll, Act.put, List.setIfInBounds_toArray, List.set_cons_zero, List.set_cons_succ]; rfl)) (hJ1_4_5_7_11_14 (.slice (some adz_v119) y118.length co24, adz_v119) _ ⟨HO120.out, ⟨_, rfl⟩, BK113.out, HI0.out, HK.out, HB.out⟩)
   ·skip
    refine box_step ?hg (N := 3) ?hd (cs := #[.int .i64 0, .int .i64 0, .int .i64 0, .int .i64 0]) (t := 53) ?hr ?_; (case hd => rfl); (case hg => rfl); (case hr => first | (go_simp; done) | (go_simp; rfl))
    intro gb132 hg w25 hbox hb
    have n0_ := qM (Kd.R_below HO120.out hb)
    have n1_ := qM (IsS93.below HI0.out hb)
    have n2_ := qM (blk_below (g := gb113) (o := .cells #[.int .i64 0, .int .i64 0, .int .i64 0, .int .i64 0] 53 (0, 0)) BK113.out hb)
    have n3_ := qM (KeepBut.trans HK.out (KeepBut.of_below hb g none) (.inl rfl))
    have n4_ := qM (below_step HB.out hb)
    have n5_ := qM (hbox)
    have n6_ := qM ((by rw [hg]; exact (keep_size (w := w) (g := g) (row := none) HK.out) : w.heap.size ≤ gb132))
    have n7_ := qM ((Nat.le_trans HW0.out (by rw [hg]; exact (keep_size (w := w) (g := g) (row := none) HK.out) : w.heap.size ≤ gb132) : w0.heap.size ≤ gb132))
    have n8_ := qM ((by rw [hg]; exact Nat.ne_of_lt (blk_lt (g := gb113) (o := .cells #[.int .i64 0, .int .i64 0, .int .i64 0, .int .i64 0] 53 (0, 0)) BK113.out) : gb113 ≠ gb132))
    have n9_ := qM ((by rw [hg]; exact Nat.ne_of_gt (blk_lt (g := gb113) (o := .cells #[.int .i64 0, .int .i64 0, .int .i64 0, .int .i64 0] 53 (0, 0)) BK113.out) : gb132 ≠ gb113))
    have n10_ := qM ((by rw [hg]; exact Nat.ne_of_lt (IsS93.lt (show IsS93 w0 _ g s0_0 t125 from by repeat (first | (with_reducible first | exact HI0.out | apply IsS93.alloc | apply IsS93.drewN | apply IsS93.drew | apply IsS93.set_1 | refine IsS93.far ?_ NB0_113.out _) | exact HI0.out))) : g ≠ gb132))
    have n11_ := qM ((by rw [hg]; exact Nat.ne_of_gt (IsS93.lt (show IsS93 w0 _ g s0_0 t125 from by repeat (first | (with_reducible first | exact HI0.out | apply IsS93.alloc | apply IsS93.drewN | apply IsS93.drew | apply IsS93.set_1 | refine IsS93.far ?_ NB0_113.out _) | exact HI0.out))) : gb132 ≠ g))
    clear HO120 HI0 BK113 HK HB
    revert n0_ n1_ n2_ n3_ n4_ n5_ n6_ n7_ n8_ n9_ n10_ n11_
    intro HO120 HI0 BK113 HK HB BK132 GW132 GE132 NB113_132 NB132_113 NB0_132 NB132_0
    clear hb hbox hg
    refine hK.out _ _ trivial (fun hHeld => ?_)
    clear hK K
    refine norm_ (a' := ?_) ?_ ?_
    rotate_left
    ·show Act.put _ (some 3) _ = _
     simp only [Act.put, List.setIfInBounds_toArray, List.set_cons_zero, List.set_cons_succ, i64_w, i32_w]
     rfl
    exact norm_ (by first | (simp only [putAll, Act.put, List.setIfInBounds_toArray, List.set_cons_zero, List.set_cons_succ]; done) | (simp only [putAll, Act.put, List.setIfInBounds_toArray, List.set_cons_zero, List.set_cons_succ]; rfl)) (hJ1_4_5_7_11_18 (.slice (some adz_v119) y118.length co24, adz_v119, gb132) _ ⟨HO120.out, ⟨_, rfl⟩, BK113.out, BK132.out, GW132.out, GE132.out, NB0_132.out, NB132_0.out, NB113_132.out, NB132_113.out, HI0.out, HK.out, HB.out⟩)
set_option maxHeartbeats 8000000 in
set_option maxRecDepth 100000 in
theorem spec_l31Out.j1_4_5_7_18 (k g : Nat) (s0_0 : List Int) (s0_1 : Int) (w0 w : World) (gb113 : Nat) (t114 t115 t116 t117 t121 t122 t124 t125 t129 t130 : Int) (y118 y126 : List Int) (K : Act → World → Prop) (post : Ending → World → Prop) (hC : spec_l31Out.CX k g s0_0 s0_1 w0 w gb113 t114 t115 t116 t117 t121 t122 t124 t125 t129 t130 y118 y126) (hJ1_4_5_7_9_18 : spec_l31Out.J1_4_5_7_9_18 k g s0_0 s0_1 w0 w gb113 t114 t115 t116 t117 t121 t122 t124 t125 t129 t130 y118 y126 K post) (hJ1_4_5_7_11_18 : spec_l31Out.J1_4_5_7_11_18 k g s0_0 s0_1 w0 w gb113 t114 t115 t116 t117 t121 t122 t124 t125 t129 t130 y118 y126 K post) : spec_l31Out.J1_4_5_7_18 k g s0_0 s0_1 w0 w gb113 t114 t115 t116 t117 t121 t122 t124 t125 t129 t130 y118 y126 K post := by
 obtain ⟨HW0, A2, A3, Ny118, A4, A7, Ny126, A8, GW113, GE113, NB0_113, NB113_0, c5b0, c6b0, c9b0, c10b0⟩ := hC
 have HT_ := qM spec_l31Out.tabO
 have HW_ := qM spec_l31Out.bits1
 have pi123 : (0 ≤ (t121 : Int)) = True := eq_true (of_decide_eq_true c5b0)
 have qi123 : (t121 < (y118.length : Int)) = True := eq_true (of_decide_eq_true c6b0)
 have pi131 : (0 ≤ (t129 : Int)) = True := eq_true (of_decide_eq_true c9b0)
 have qi131 : (t129 < (y126.length : Int)) = True := eq_true (of_decide_eq_true c10b0)
 unfold spec_l31Out.J1_4_5_7_9_18 spec_l31Out.FR spec_l31Out.OPS at hJ1_4_5_7_9_18
 unfold spec_l31Out.J1_4_5_7_11_18 spec_l31Out.FR spec_l31Out.OPS at hJ1_4_5_7_11_18
 unfold spec_l31Out.J1_4_5_7_18 spec_l31Out.FR spec_l31Out.OPS
 ··skip
   rintro ⟨v119, adz_v119, gb132⟩ w23 ⟨h0_, h1_, h2_, h3_, h4_, h5_, h6_, h7_, h8_, h9_, h10_, h11_, h12_⟩
   have n0_ : Aside0 (Kd.R (Kd.int .i64) 3 w23 w.heap.size (fun _ => True) v119 y118) := ⟨h0_⟩
   have n1_ : Aside0 (∃ c_, (v119 : Value) = .slice (some adz_v119) y118.length c_) := ⟨h1_⟩
   have n2_ : Aside0 (w23.heap[gb113]? = some (.cells #[.int .i64 0, .int .i64 0, .int .i64 0, .int .i64 0] 53 (0, 0))) := ⟨h2_⟩
   have n3_ : Aside0 (w23.heap[gb132]? = some (.cells #[.int .i64 0, .int .i64 0, .int .i64 0, .int .i64 0] 53 (0, 0))) := ⟨h3_⟩
   have n4_ : Aside0 (w.heap.size ≤ gb132) := ⟨h4_⟩
   have n5_ : Aside0 (w0.heap.size ≤ gb132) := ⟨h5_⟩
   have n6_ : Aside0 (g ≠ gb132) := ⟨h6_⟩
   have n7_ : Aside0 (gb132 ≠ g) := ⟨h7_⟩
   have n8_ : Aside0 (gb113 ≠ gb132) := ⟨h8_⟩
   have n9_ : Aside0 (gb132 ≠ gb113) := ⟨h9_⟩
   have n10_ : Aside0 (IsS93 w0 w23 g s0_0 t122) := ⟨h10_⟩
   have n11_ : Aside0 (KeepBut w w23 g none) := ⟨h11_⟩
   have n12_ : Aside0 (Below w0.heap.size w0 w23) := ⟨h12_⟩
   clear h0_ h1_ h2_ h3_ h4_ h5_ h6_ h7_ h8_ h9_ h10_ h11_ h12_
   revert n0_ n1_ n2_ n3_ n4_ n5_ n6_ n7_ n8_ n9_ n10_ n11_ n12_
   intro HO120 HA_HO120 BK113 BK132 GW132 GE132 NB0_132 NB132_0 NB113_132 NB132_113 HI0 HK HB
   have hHeld := trivial
   obtain ⟨co24, eo24⟩ := HA_HO120.out
   clear HA_HO120
   subst eo24
   refine norm_ (a' := ?_) ?_ ?_
   rotate_left
   ·simp only [putAll, Act.put, List.setIfInBounds_toArray, List.set_cons_zero, List.set_cons_succ]
    rfl
   refine two_ (i := 9) (j := 11) (Ni := some 13) (Nj := some 15) spec_l31Out.m34 spec_l31Out.m38 rfl rfl rfl rfl (two_of HT_.out (by kernel_rfl)) (by decide) (by decide) (fun K hK => ?_) (fun K hK => ?_)
   ·skip
    (have p123 : 0 ≤ (t121 : Int) := of_decide_eq_true (by first | (with_reducible assumption) | assumption); have q123 : t121 < (y118.length : Int) := of_decide_eq_true (by first | (with_reducible assumption) | assumption); obtain ⟨ad123, e123, hx123_0⟩ := Kd.at_int (qR HO120.out).2.2 t121 p123 q123; obtain rfl : adz_v119 = ad123 := (by injection e123))
    refine value_ (w1 := ?_) (v := ?_) (by rfl) rfl ?_ ?_
    rotate_left 2
    ·go_simp
     constructor
     ·rfl
     ·rfl
    clear hx123_0
    refine hK.out _ _ trivial (fun hHeld => ?_)
    clear hK K
    refine norm_ (a' := ?_) ?_ ?_
    rotate_left
    ·show Act.put _ (some 13) _ = _
     simp only [Act.put, List.setIfInBounds_toArray, List.set_cons_zero, List.set_cons_succ, i64_w, i32_w]
     rfl
    exact norm_ (by first | (simp only [putAll, Act.put, List.setIfInBounds_toArray, List.set_cons_zero, List.set_cons_succ]; done) | (simp only [putAll, Act.put, List.setIfInBounds_toArray, List.set_cons_zero, List.set_cons_succ]; rfl)) (hJ1_4_5_7_9_18 (.slice (some adz_v119) y118.length co24, adz_v119, gb132) _ ⟨HO120.out, ⟨_, rfl⟩, BK113.out, BK132.out, GW132.out, GE132.out, NB0_132.out, NB132_0.out, NB113_132.out, NB132_113.out, HI0.out, HK.out, HB.out⟩)
   ·skip
    refine goes_ Try.func53 (by kernel_rfl) rfl #[.pointer (some ⟨g, 0, none⟩), .int .i64 16] (by rfl) rfl rfl (by (try simp only [List.map_toArray, List.map_cons, List.map_nil]); first | done | rfl | (simp only [List.length_drop, List.length_take]; rfl)) ?_
    with_reducible refine (spec_l30Rd_pick.calls k g s0_0 t122 16 t124 t125 w0 _ ?side1 ?side2 A7.out).mono ?_
    (case side1 => repeat (first | (with_reducible first | exact HI0.out | apply IsS93.alloc | apply IsS93.drewN | apply IsS93.drew | apply IsS93.set_1 | refine IsS93.far ?_ NB0_113.out _ | refine IsS93.far ?_ NB0_132.out _) | exact HI0.out))
    (case side2 => repeat (first | (with_reducible first | exact HB.out | apply yA | apply yN | apply yD | refine yS ?_ (IsS93.ge HI0.out) | refine yS ?_ GE113.out | refine yS ?_ GE132.out) | exact HB.out))
    rintro e w25 ⟨rfl, hi, hb, hk⟩
    refine ⟨_, rfl, ?_⟩
    have n0_ := qM (KeepBut.blk hk (g' := gb113) (o := .cells #[.int .i64 0, .int .i64 0, .int .i64 0, .int .i64 0] 53 (0, 0)) BK113.out NB113_0.out (by simp))
    have n1_ := qM (Kd.R_mono (Kd.R_keep (IsS93.apart (show IsS93 w0 _ g s0_0 t122 from by repeat (first | (with_reducible first | exact HI0.out | apply IsS93.alloc | apply IsS93.drewN | apply IsS93.drew | apply IsS93.set_1 | refine IsS93.far ?_ NB0_113.out _ | refine IsS93.far ?_ NB0_132.out _) | exact HI0.out)) HO120.out (by decide)) hk (fun _ h => h.2)) (fun _ h => h.1))
    have n2_ := qM (KeepBut.blk hk (g' := gb132) (o := .cells #[.int .i64 0, .int .i64 0, .int .i64 0, .int .i64 0] 53 (0, 0)) BK132.out NB132_0.out (by simp))
    have n3_ := qM (KeepBut.trans HK.out hk (.inl rfl))
    have n4_ := qM (hb)
    have n5_ := qM (hi)
    clear BK113 HO120 BK132 HK HB HI0
    revert n0_ n1_ n2_ n3_ n4_ n5_
    intro BK113 HO120 BK132 HK HB HI0
    (try clear hb)
    (try clear hb2)
    (try clear hk)
    (try clear hi)
    refine hK.out _ _ trivial (fun hHeld => ?_)
    clear hK K
    refine norm_ (a' := ?_) ?_ ?_
    rotate_left
    ·show Act.put _ (some 15) _ = _
     simp only [Act.put, List.setIfInBounds_toArray, List.set_cons_zero, List.set_cons_succ, i64_w, i32_w]
     rfl
    exact norm_ (by first | (simp only [putAll, Act.put, List.setIfInBounds_toArray, List.set_cons_zero, List.set_cons_succ]; done) | (simp only [putAll, Act.put, List.setIfInBounds_toArray, List.set_cons_zero, List.set_cons_succ]; rfl)) (hJ1_4_5_7_11_18 (.slice (some adz_v119) y118.length co24, adz_v119, gb132) _ ⟨HO120.out, ⟨_, rfl⟩, BK113.out, BK132.out, GW132.out, GE132.out, NB0_132.out, NB132_0.out, NB113_132.out, NB132_113.out, HI0.out, HK.out, HB.out⟩)
set_option maxHeartbeats 8000000 in
set_option maxRecDepth 100000 in
theorem spec_l31Out.j1_4_7_11_12 (k g : Nat) (s0_0 : List Int) (s0_1 : Int) (w0 w : World) (gb113 : Nat) (t114 t115 t116 t117 t121 t122 t124 t125 t129 t130 : Int) (y118 y126 : List Int) (K : Act → World → Prop) (post : Ending → World → Prop) (hC : spec_l31Out.CX k g s0_0 s0_1 w0 w gb113 t114 t115 t116 t117 t121 t122 t124 t125 t129 t130 y118 y126) (hJ1_4_5_7_11_12 : spec_l31Out.J1_4_5_7_11_12 k g s0_0 s0_1 w0 w gb113 t114 t115 t116 t117 t121 t122 t124 t125 t129 t130 y118 y126 K post) (hJ1_4_7_11_12_14 : spec_l31Out.J1_4_7_11_12_14 k g s0_0 s0_1 w0 w gb113 t114 t115 t116 t117 t121 t122 t124 t125 t129 t130 y118 y126 K post) (hJ1_4_7_11_12_18 : spec_l31Out.J1_4_7_11_12_18 k g s0_0 s0_1 w0 w gb113 t114 t115 t116 t117 t121 t122 t124 t125 t129 t130 y118 y126 K post) : spec_l31Out.J1_4_7_11_12 k g s0_0 s0_1 w0 w gb113 t114 t115 t116 t117 t121 t122 t124 t125 t129 t130 y118 y126 K post := by
 obtain ⟨HW0, A2, A3, Ny118, A4, A7, Ny126, A8, GW113, GE113, NB0_113, NB113_0, c5b0, c6b0, c9b0, c10b0⟩ := hC
 have HT_ := qM spec_l31Out.tabO
 have HW_ := qM spec_l31Out.bits1
 have pi123 : (0 ≤ (t121 : Int)) = True := eq_true (of_decide_eq_true c5b0)
 have qi123 : (t121 < (y118.length : Int)) = True := eq_true (of_decide_eq_true c6b0)
 have pi131 : (0 ≤ (t129 : Int)) = True := eq_true (of_decide_eq_true c9b0)
 have qi131 : (t129 < (y126.length : Int)) = True := eq_true (of_decide_eq_true c10b0)
 unfold spec_l31Out.J1_4_5_7_11_12 spec_l31Out.FR spec_l31Out.OPS at hJ1_4_5_7_11_12
 unfold spec_l31Out.J1_4_7_11_12_14 spec_l31Out.FR spec_l31Out.OPS at hJ1_4_7_11_12_14
 unfold spec_l31Out.J1_4_7_11_12_18 spec_l31Out.FR spec_l31Out.OPS at hJ1_4_7_11_12_18
 unfold spec_l31Out.J1_4_7_11_12 spec_l31Out.FR spec_l31Out.OPS
 ··skip
   rintro ⟨v127, adz_v127⟩ w23 ⟨h0_, h1_, h2_, h3_, h4_, h5_⟩
   have n0_ : Aside0 (Kd.R (Kd.int .i64) 3 w23 w.heap.size (fun _ => True) v127 y126) := ⟨h0_⟩
   have n1_ : Aside0 (∃ c_, (v127 : Value) = .slice (some adz_v127) y126.length c_) := ⟨h1_⟩
   have n2_ : Aside0 (w23.heap[gb113]? = some (.cells #[.int .i64 0, .int .i64 0, .int .i64 0, .int .i64 0] 53 (0, 0))) := ⟨h2_⟩
   have n3_ : Aside0 (IsS93 w0 w23 g s0_0 t125) := ⟨h3_⟩
   have n4_ : Aside0 (KeepBut w w23 g none) := ⟨h4_⟩
   have n5_ : Aside0 (Below w0.heap.size w0 w23) := ⟨h5_⟩
   clear h0_ h1_ h2_ h3_ h4_ h5_
   revert n0_ n1_ n2_ n3_ n4_ n5_
   intro HO128 HA_HO128 BK113 HI0 HK HB
   have hHeld := trivial
   obtain ⟨co24, eo24⟩ := HA_HO128.out
   clear HA_HO128
   subst eo24
   refine norm_ (a' := ?_) ?_ ?_
   rotate_left
   ·simp only [putAll, Act.put, List.setIfInBounds_toArray, List.set_cons_zero, List.set_cons_succ]
    rfl
   refine three_ (i := 5) (j := 14) (k := 18) (Ni := some 9) (Nj := some 18) (Nk := some 3) spec_l31Out.m50 spec_l31Out.m51 spec_l31Out.m41 rfl rfl rfl rfl rfl rfl (three_of HT_.out (by kernel_rfl)) (by decide) (by decide) (by decide) (fun K hK => ?_) (fun K hK => ?_) (fun K hK => ?_)
   ·skip
    refine Kd.R_lit_step (Kd.int .i64) _ 3 ?hg (N := 9) ?hd (xs := ([0, 1, 2, 199, 200] : List Int)) (inner := [.int .i64 0, .int .i64 1, .int .i64 2, .int .i64 199, .int .i64 200]) (ok := fun _ => True) (okp := fun _ => True) ?hr ?hp (fun _ hk => hk) trivial (Below.refl _ _) (Nat.le_refl _) (by simp) ?_; (case hd => rfl); (case hg => rfl); (case hr => first | (go_simp; done) | (go_simp; rfl)); (case hp => exact (Reps.one (show Kd.M (Kd.int .i64) _ _ _ 0 [.int .i64 0] from rfl) (Reps.one (show Kd.M (Kd.int .i64) _ _ _ 1 [.int .i64 1] from rfl) (Reps.one (show Kd.M (Kd.int .i64) _ _ _ 2 [.int .i64 2] from rfl) (Reps.one (show Kd.M (Kd.int .i64) _ _ _ 199 [.int .i64 199] from rfl) (Reps.one (show Kd.M (Kd.int .i64) _ _ _ 200 [.int .i64 200] from rfl) (Reps.none _ _)))))))
    intro v119 w25 ho26 hb hg_ hnew_
    clear hg_ hnew_
    (first | rw [← Ny118.out] at ho26 | (simp only [Int.reduceToNat] at ho26; rw [← Ny118.out] at ho26))
    have n0_ := qM (Kd.R_elder' HO128.out (Kd.R_base ho26) hb)
    have n1_ := qM (Kd.R_lower (Kd.R_new' ho26 (Kd.R_lt HO128.out)) (keep_size (w := w) (g := g) (row := none) HK.out))
    have n2_ := qM (IsS93.below HI0.out hb)
    have n3_ := qM (blk_below (g := gb113) (o := .cells #[.int .i64 0, .int .i64 0, .int .i64 0, .int .i64 0] 53 (0, 0)) BK113.out hb)
    have n4_ := qM (KeepBut.trans HK.out (KeepBut.of_below hb g none) (.inl rfl))
    have n5_ := qM (below_step HB.out hb)
    clear HO128 HI0 BK113 HK HB
    revert n0_ n1_ n2_ n3_ n4_ n5_
    intro HO128 HO120 HI0 BK113 HK HB
    clear hb ho26
    obtain ⟨Ao27, co27, eo27⟩ := Kd.R_slice HO120.out
    subst eo27
    obtain ⟨ado27, fo27, _⟩ := Kd.at_int (qR HO120.out).2.2 0 (by decide) (by rw [Ny118.out]; simp)
    cases fo27
    refine hK.out _ _ trivial (fun hHeld => ?_)
    clear hK K
    refine norm_ (a' := ?_) ?_ ?_
    rotate_left
    ·show Act.put _ (some 9) _ = _
     simp only [Act.put, List.setIfInBounds_toArray, List.set_cons_zero, List.set_cons_succ, i64_w, i32_w]
     rfl
    refine pure_ (i := 8) (N := some 12) (v := ?_) (a' := ?_) spec_l31Out.m35 rfl rfl (any_of HT_.out (by kernel_rfl)) (fun _ _ _ h => h) (Or.inl ⟨by rfl, ?_⟩) ?_ ?_
    rotate_left
    ·intro w'
     go_simp
     with_reducible rfl
    rotate_left
    ·simp only [Act.put, List.setIfInBounds_toArray, List.set_cons_zero, List.set_cons_succ, i64_w, i32_w]
     rfl
    exact norm_ (by first | (simp only [putAll, Act.put, List.setIfInBounds_toArray, List.set_cons_zero, List.set_cons_succ]; done) | (simp only [putAll, Act.put, List.setIfInBounds_toArray, List.set_cons_zero, List.set_cons_succ]; rfl)) (hJ1_4_5_7_11_12 (.slice (some ado27) y118.length co27, ado27, .slice (some adz_v127) y126.length co24, adz_v127) _ ⟨(by (with_reducible repeat (first | apply qA | apply qN | apply qD)); exact Kd.R_mono HO120.out (fun _ hk => hk.2)), (by (with_reducible repeat (first | apply qA | apply qN | apply qD)); exact Kd.R_mono HO128.out (fun _ hk => hk.2)), ⟨_, rfl⟩, ⟨_, rfl⟩, BK113.out, HI0.out, HK.out, HB.out⟩)
   ·skip
    refine goes_ Try.func53 (by kernel_rfl) rfl #[.pointer (some ⟨g, 0, none⟩), .int .i64 5] (by rfl) rfl rfl (by (try simp only [List.map_toArray, List.map_cons, List.map_nil]); first | done | rfl | (simp only [List.length_drop, List.length_take]; rfl)) ?_
    with_reducible refine (spec_l30Rd_pick.calls k g s0_0 t125 5 t129 t130 w0 _ ?side1 ?side2 A8.out).mono ?_
    (case side1 => repeat (first | (with_reducible first | exact HI0.out | apply IsS93.alloc | apply IsS93.drewN | apply IsS93.drew | apply IsS93.set_1 | refine IsS93.far ?_ NB0_113.out _) | exact HI0.out))
    (case side2 => repeat (first | (with_reducible first | exact HB.out | apply yA | apply yN | apply yD | refine yS ?_ (IsS93.ge HI0.out) | refine yS ?_ GE113.out) | exact HB.out))
    rintro e w25 ⟨rfl, hi, hb, hk⟩
    refine ⟨_, rfl, ?_⟩
    have n0_ := qM (KeepBut.blk hk (g' := gb113) (o := .cells #[.int .i64 0, .int .i64 0, .int .i64 0, .int .i64 0] 53 (0, 0)) BK113.out NB113_0.out (by simp))
    have n1_ := qM (Kd.R_mono (Kd.R_keep (IsS93.apart (show IsS93 w0 _ g s0_0 t125 from by repeat (first | (with_reducible first | exact HI0.out | apply IsS93.alloc | apply IsS93.drewN | apply IsS93.drew | apply IsS93.set_1 | refine IsS93.far ?_ NB0_113.out _) | exact HI0.out)) HO128.out (by decide)) hk (fun _ h => h.2)) (fun _ h => h.1))
    have n2_ := qM (KeepBut.trans HK.out hk (.inl rfl))
    have n3_ := qM (hb)
    have n4_ := qM (hi)
    clear BK113 HO128 HK HB HI0
    revert n0_ n1_ n2_ n3_ n4_
    intro BK113 HO128 HK HB HI0
    (try clear hb)
    (try clear hb2)
    (try clear hk)
    (try clear hi)
    refine hK.out _ _ trivial (fun hHeld => ?_)
    clear hK K
    refine norm_ (a' := ?_) ?_ ?_
    rotate_left
    ·show Act.put _ (some 18) _ = _
     simp only [Act.put, List.setIfInBounds_toArray, List.set_cons_zero, List.set_cons_succ, i64_w, i32_w]
     rfl
    refine pure_ (i := 15) (N := some 19) (v := ?_) (a' := ?_) spec_l31Out.m39 rfl rfl (any_of HT_.out (by kernel_rfl)) (fun _ _ _ h => h) (Or.inl ⟨by rfl, ?_⟩) ?_ ?_
    rotate_left
    ·intro w'
     go_simp
     with_reducible rfl
    rotate_left
    ·simp only [Act.put, List.setIfInBounds_toArray, List.set_cons_zero, List.set_cons_succ, i64_w, i32_w]
     rfl
    exact norm_ (by first | (simp only [putAll, Act.put, List.setIfInBounds_toArray, List.set_cons_zero, List.set_cons_succ]; done) | (simp only [putAll, Act.put, List.setIfInBounds_toArray, List.set_cons_zero, List.set_cons_succ]; rfl)) (hJ1_4_7_11_12_14 (.slice (some adz_v127) y126.length co24, adz_v127) _ ⟨HO128.out, ⟨_, rfl⟩, BK113.out, HI0.out, HK.out, HB.out⟩)
   ·skip
    refine box_step ?hg (N := 3) ?hd (cs := #[.int .i64 0, .int .i64 0, .int .i64 0, .int .i64 0]) (t := 53) ?hr ?_; (case hd => rfl); (case hg => rfl); (case hr => first | (go_simp; done) | (go_simp; rfl))
    intro gb132 hg w25 hbox hb
    have n0_ := qM (Kd.R_below HO128.out hb)
    have n1_ := qM (IsS93.below HI0.out hb)
    have n2_ := qM (blk_below (g := gb113) (o := .cells #[.int .i64 0, .int .i64 0, .int .i64 0, .int .i64 0] 53 (0, 0)) BK113.out hb)
    have n3_ := qM (KeepBut.trans HK.out (KeepBut.of_below hb g none) (.inl rfl))
    have n4_ := qM (below_step HB.out hb)
    have n5_ := qM (hbox)
    have n6_ := qM ((by rw [hg]; exact (keep_size (w := w) (g := g) (row := none) HK.out) : w.heap.size ≤ gb132))
    have n7_ := qM ((Nat.le_trans HW0.out (by rw [hg]; exact (keep_size (w := w) (g := g) (row := none) HK.out) : w.heap.size ≤ gb132) : w0.heap.size ≤ gb132))
    have n8_ := qM ((by rw [hg]; exact Nat.ne_of_lt (blk_lt (g := gb113) (o := .cells #[.int .i64 0, .int .i64 0, .int .i64 0, .int .i64 0] 53 (0, 0)) BK113.out) : gb113 ≠ gb132))
    have n9_ := qM ((by rw [hg]; exact Nat.ne_of_gt (blk_lt (g := gb113) (o := .cells #[.int .i64 0, .int .i64 0, .int .i64 0, .int .i64 0] 53 (0, 0)) BK113.out) : gb132 ≠ gb113))
    have n10_ := qM ((by rw [hg]; exact Nat.ne_of_lt (IsS93.lt (show IsS93 w0 _ g s0_0 t125 from by repeat (first | (with_reducible first | exact HI0.out | apply IsS93.alloc | apply IsS93.drewN | apply IsS93.drew | apply IsS93.set_1 | refine IsS93.far ?_ NB0_113.out _) | exact HI0.out))) : g ≠ gb132))
    have n11_ := qM ((by rw [hg]; exact Nat.ne_of_gt (IsS93.lt (show IsS93 w0 _ g s0_0 t125 from by repeat (first | (with_reducible first | exact HI0.out | apply IsS93.alloc | apply IsS93.drewN | apply IsS93.drew | apply IsS93.set_1 | refine IsS93.far ?_ NB0_113.out _) | exact HI0.out))) : gb132 ≠ g))
    clear HO128 HI0 BK113 HK HB
    revert n0_ n1_ n2_ n3_ n4_ n5_ n6_ n7_ n8_ n9_ n10_ n11_
    intro HO128 HI0 BK113 HK HB BK132 GW132 GE132 NB113_132 NB132_113 NB0_132 NB132_0
    clear hb hbox hg
    refine hK.out _ _ trivial (fun hHeld => ?_)
    clear hK K
    refine norm_ (a' := ?_) ?_ ?_
    rotate_left
    ·show Act.put _ (some 3) _ = _
     simp only [Act.put, List.setIfInBounds_toArray, List.set_cons_zero, List.set_cons_succ, i64_w, i32_w]
     rfl
    exact norm_ (by first | (simp only [putAll, Act.put, List.setIfInBounds_toArray, List.set_cons_zero, List.set_cons_succ]; done) | (simp only [putAll, Act.put, List.setIfInBounds_toArray, List.set_cons_zero, List.set_cons_succ]; rfl)) (hJ1_4_7_11_12_18 (.slice (some adz_v127) y126.length co24, adz_v127, gb132) _ ⟨HO128.out, ⟨_, rfl⟩, BK113.out, BK132.out, GW132.out, GE132.out, NB0_132.out, NB132_0.out, NB113_132.out, NB132_113.out, HI0.out, HK.out, HB.out⟩)
set_option maxHeartbeats 8000000 in
set_option maxRecDepth 100000 in
theorem spec_l31Out.j1_4_7_11_14 (k g : Nat) (s0_0 : List Int) (s0_1 : Int) (w0 w : World) (gb113 : Nat) (t114 t115 t116 t117 t121 t122 t124 t125 t129 t130 : Int) (y118 y126 : List Int) (K : Act → World → Prop) (post : Ending → World → Prop) (hC : spec_l31Out.CX k g s0_0 s0_1 w0 w gb113 t114 t115 t116 t117 t121 t122 t124 t125 t129 t130 y118 y126) (hJ1_4_5_7_11_14 : spec_l31Out.J1_4_5_7_11_14 k g s0_0 s0_1 w0 w gb113 t114 t115 t116 t117 t121 t122 t124 t125 t129 t130 y118 y126 K post) (hJ1_4_7_11_12_14 : spec_l31Out.J1_4_7_11_12_14 k g s0_0 s0_1 w0 w gb113 t114 t115 t116 t117 t121 t122 t124 t125 t129 t130 y118 y126 K post) (hJ1_4_7_11_14_18 : spec_l31Out.J1_4_7_11_14_18 k g s0_0 s0_1 w0 w gb113 t114 t115 t116 t117 t121 t122 t124 t125 t129 t130 y118 y126 K post) : spec_l31Out.J1_4_7_11_14 k g s0_0 s0_1 w0 w gb113 t114 t115 t116 t117 t121 t122 t124 t125 t129 t130 y118 y126 K post := by
 obtain ⟨HW0, A2, A3, Ny118, A4, A7, Ny126, A8, GW113, GE113, NB0_113, NB113_0, c5b0, c6b0, c9b0, c10b0⟩ := hC
 have HT_ := qM spec_l31Out.tabO
 have HW_ := qM spec_l31Out.bits1
 have pi123 : (0 ≤ (t121 : Int)) = True := eq_true (of_decide_eq_true c5b0)
 have qi123 : (t121 < (y118.length : Int)) = True := eq_true (of_decide_eq_true c6b0)
 have pi131 : (0 ≤ (t129 : Int)) = True := eq_true (of_decide_eq_true c9b0)
 have qi131 : (t129 < (y126.length : Int)) = True := eq_true (of_decide_eq_true c10b0)
 unfold spec_l31Out.J1_4_5_7_11_14 spec_l31Out.FR spec_l31Out.OPS at hJ1_4_5_7_11_14
 unfold spec_l31Out.J1_4_7_11_12_14 spec_l31Out.FR spec_l31Out.OPS at hJ1_4_7_11_12_14
 unfold spec_l31Out.J1_4_7_11_14_18 spec_l31Out.FR spec_l31Out.OPS at hJ1_4_7_11_14_18
 unfold spec_l31Out.J1_4_7_11_14 spec_l31Out.FR spec_l31Out.OPS
 ··skip
   rintro _ w21 ⟨h0_, h1_, h2_, h3_⟩
   have n0_ : Aside0 (w21.heap[gb113]? = some (.cells #[.int .i64 0, .int .i64 0, .int .i64 0, .int .i64 0] 53 (0, 0))) := ⟨h0_⟩
   have n1_ : Aside0 (IsS93 w0 w21 g s0_0 t130) := ⟨h1_⟩
   have n2_ : Aside0 (KeepBut w w21 g none) := ⟨h2_⟩
   have n3_ : Aside0 (Below w0.heap.size w0 w21) := ⟨h3_⟩
   clear h0_ h1_ h2_ h3_
   revert n0_ n1_ n2_ n3_
   intro BK113 HI0 HK HB
   have hHeld := trivial
   refine norm_ (a' := ?_) ?_ ?_
   rotate_left
   ·simp only [putAll, Act.put, List.setIfInBounds_toArray, List.set_cons_zero, List.set_cons_succ]
    rfl
   refine three_ (i := 5) (j := 12) (k := 18) (Ni := some 9) (Nj := some 16) (Nk := some 3) spec_l31Out.m53 spec_l31Out.m51 spec_l31Out.m44 rfl rfl rfl rfl rfl rfl (three_of HT_.out (by kernel_rfl)) (by decide) (by decide) (by decide) (fun K hK => ?_) (fun K hK => ?_) (fun K hK => ?_)
   ·skip
    refine Kd.R_lit_step (Kd.int .i64) _ 3 ?hg (N := 9) ?hd (xs := ([0, 1, 2, 199, 200] : List Int)) (inner := [.int .i64 0, .int .i64 1, .int .i64 2, .int .i64 199, .int .i64 200]) (ok := fun _ => True) (okp := fun _ => True) ?hr ?hp (fun _ hk => hk) trivial (Below.refl _ _) (Nat.le_refl _) (by simp) ?_; (case hd => rfl); (case hg => rfl); (case hr => first | (go_simp; done) | (go_simp; rfl)); (case hp => exact (Reps.one (show Kd.M (Kd.int .i64) _ _ _ 0 [.int .i64 0] from rfl) (Reps.one (show Kd.M (Kd.int .i64) _ _ _ 1 [.int .i64 1] from rfl) (Reps.one (show Kd.M (Kd.int .i64) _ _ _ 2 [.int .i64 2] from rfl) (Reps.one (show Kd.M (Kd.int .i64) _ _ _ 199 [.int .i64 199] from rfl) (Reps.one (show Kd.M (Kd.int .i64) _ _ _ 200 [.int .i64 200] from rfl) (Reps.none _ _)))))))
    intro v119 w22 ho23 hb hg_ hnew_
    clear hg_ hnew_
    (first | rw [← Ny118.out] at ho23 | (simp only [Int.reduceToNat] at ho23; rw [← Ny118.out] at ho23))
    have n0_ := qM (Kd.R_lower ho23 (keep_size (w := w) (g := g) (row := none) HK.out))
    have n1_ := qM (IsS93.below HI0.out hb)
    have n2_ := qM (blk_below (g := gb113) (o := .cells #[.int .i64 0, .int .i64 0, .int .i64 0, .int .i64 0] 53 (0, 0)) BK113.out hb)
    have n3_ := qM (KeepBut.trans HK.out (KeepBut.of_below hb g none) (.inl rfl))
    have n4_ := qM (below_step HB.out hb)
    clear HI0 BK113 HK HB
    revert n0_ n1_ n2_ n3_ n4_
    intro HO120 HI0 BK113 HK HB
    clear hb ho23
    obtain ⟨Ao24, co24, eo24⟩ := Kd.R_slice HO120.out
    subst eo24
    obtain ⟨ado24, fo24, _⟩ := Kd.at_int (qR HO120.out).2.2 0 (by decide) (by rw [Ny118.out]; simp)
    cases fo24
    refine hK.out _ _ trivial (fun hHeld => ?_)
    clear hK K
    refine norm_ (a' := ?_) ?_ ?_
    rotate_left
    ·show Act.put _ (some 9) _ = _
     simp only [Act.put, List.setIfInBounds_toArray, List.set_cons_zero, List.set_cons_succ, i64_w, i32_w]
     rfl
    refine pure_ (i := 8) (N := some 12) (v := ?_) (a' := ?_) spec_l31Out.m37 rfl rfl (any_of HT_.out (by kernel_rfl)) (fun _ _ _ h => h) (Or.inl ⟨by rfl, ?_⟩) ?_ ?_
    rotate_left
    ·intro w'
     go_simp
     with_reducible rfl
    rotate_left
    ·simp only [Act.put, List.setIfInBounds_toArray, List.set_cons_zero, List.set_cons_succ, i64_w, i32_w]
     rfl
    exact norm_ (by first | (simp only [putAll, Act.put, List.setIfInBounds_toArray, List.set_cons_zero, List.set_cons_succ]; done) | (simp only [putAll, Act.put, List.setIfInBounds_toArray, List.set_cons_zero, List.set_cons_succ]; rfl)) (hJ1_4_5_7_11_14 (.slice (some ado24) y118.length co24, ado24) _ ⟨HO120.out, ⟨_, rfl⟩, BK113.out, HI0.out, HK.out, HB.out⟩)
   ·skip
    refine Kd.R_lit_step (Kd.int .i64) _ 3 ?hg (N := 16) ?hd (xs := ([0, 1, 14, 15, t124] : List Int)) (inner := [.int .i64 0, .int .i64 1, .int .i64 14, .int .i64 15, .int .i64 t124]) (ok := fun _ => True) (okp := fun _ => True) ?hr ?hp (fun _ hk => hk) trivial (Below.refl _ _) (Nat.le_refl _) (by simp) ?_; (case hd => rfl); (case hg => rfl); (case hr => first | (go_simp; done) | (go_simp; rfl)); (case hp => exact (Reps.one (show Kd.M (Kd.int .i64) _ _ _ 0 [.int .i64 0] from rfl) (Reps.one (show Kd.M (Kd.int .i64) _ _ _ 1 [.int .i64 1] from rfl) (Reps.one (show Kd.M (Kd.int .i64) _ _ _ 14 [.int .i64 14] from rfl) (Reps.one (show Kd.M (Kd.int .i64) _ _ _ 15 [.int .i64 15] from rfl) (Reps.one (show Kd.M (Kd.int .i64) _ _ _ t124 [.int .i64 t124] from rfl) (Reps.none _ _)))))))
    intro v127 w22 ho23 hb hg_ hnew_
    clear hg_ hnew_
    (first | rw [← Ny126.out] at ho23 | (simp only [Int.reduceToNat] at ho23; rw [← Ny126.out] at ho23))
    have n0_ := qM (Kd.R_lower ho23 (keep_size (w := w) (g := g) (row := none) HK.out))
    have n1_ := qM (IsS93.below HI0.out hb)
    have n2_ := qM (blk_below (g := gb113) (o := .cells #[.int .i64 0, .int .i64 0, .int .i64 0, .int .i64 0] 53 (0, 0)) BK113.out hb)
    have n3_ := qM (KeepBut.trans HK.out (KeepBut.of_below hb g none) (.inl rfl))
    have n4_ := qM (below_step HB.out hb)
    clear HI0 BK113 HK HB
    revert n0_ n1_ n2_ n3_ n4_
    intro HO128 HI0 BK113 HK HB
    clear hb ho23
    obtain ⟨Ao24, co24, eo24⟩ := Kd.R_slice HO128.out
    subst eo24
    obtain ⟨ado24, fo24, _⟩ := Kd.at_int (qR HO128.out).2.2 0 (by decide) (by rw [Ny126.out]; simp)
    cases fo24
    refine hK.out _ _ trivial (fun hHeld => ?_)
    clear hK K
    refine norm_ (a' := ?_) ?_ ?_
    rotate_left
    ·show Act.put _ (some 16) _ = _
     simp only [Act.put, List.setIfInBounds_toArray, List.set_cons_zero, List.set_cons_succ, i64_w, i32_w]
     rfl
    refine pure_ (i := 15) (N := some 19) (v := ?_) (a' := ?_) spec_l31Out.m39 rfl rfl (any_of HT_.out (by kernel_rfl)) (fun _ _ _ h => h) (Or.inl ⟨by rfl, ?_⟩) ?_ ?_
    rotate_left
    ·intro w'
     go_simp
     with_reducible rfl
    rotate_left
    ·simp only [Act.put, List.setIfInBounds_toArray, List.set_cons_zero, List.set_cons_succ, i64_w, i32_w]
     rfl
    exact norm_ (by first | (simp only [putAll, Act.put, List.setIfInBounds_toArray, List.set_cons_zero, List.set_cons_succ]; done) | (simp only [putAll, Act.put, List.setIfInBounds_toArray, List.set_cons_zero, List.set_cons_succ]; rfl)) (hJ1_4_7_11_12_14 (.slice (some ado24) y126.length co24, ado24) _ ⟨HO128.out, ⟨_, rfl⟩, BK113.out, HI0.out, HK.out, HB.out⟩)
   ·skip
    refine box_step ?hg (N := 3) ?hd (cs := #[.int .i64 0, .int .i64 0, .int .i64 0, .int .i64 0]) (t := 53) ?hr ?_; (case hd => rfl); (case hg => rfl); (case hr => first | (go_simp; done) | (go_simp; rfl))
    intro gb132 hg w22 hbox hb
    have n0_ := qM (IsS93.below HI0.out hb)
    have n1_ := qM (blk_below (g := gb113) (o := .cells #[.int .i64 0, .int .i64 0, .int .i64 0, .int .i64 0] 53 (0, 0)) BK113.out hb)
    have n2_ := qM (KeepBut.trans HK.out (KeepBut.of_below hb g none) (.inl rfl))
    have n3_ := qM (below_step HB.out hb)
    have n4_ := qM (hbox)
    have n5_ := qM ((by rw [hg]; exact (keep_size (w := w) (g := g) (row := none) HK.out) : w.heap.size ≤ gb132))
    have n6_ := qM ((Nat.le_trans HW0.out (by rw [hg]; exact (keep_size (w := w) (g := g) (row := none) HK.out) : w.heap.size ≤ gb132) : w0.heap.size ≤ gb132))
    have n7_ := qM ((by rw [hg]; exact Nat.ne_of_lt (blk_lt (g := gb113) (o := .cells #[.int .i64 0, .int .i64 0, .int .i64 0, .int .i64 0] 53 (0, 0)) BK113.out) : gb113 ≠ gb132))
    have n8_ := qM ((by rw [hg]; exact Nat.ne_of_gt (blk_lt (g := gb113) (o := .cells #[.int .i64 0, .int .i64 0, .int .i64 0, .int .i64 0] 53 (0, 0)) BK113.out) : gb132 ≠ gb113))
    have n9_ := qM ((by rw [hg]; exact Nat.ne_of_lt (IsS93.lt (show IsS93 w0 _ g s0_0 t130 from by repeat (first | (with_reducible first | exact HI0.out | apply IsS93.alloc | apply IsS93.drewN | apply IsS93.drew | apply IsS93.set_1 | refine IsS93.far ?_ NB0_113.out _) | exact HI0.out))) : g ≠ gb132))
    have n10_ := qM ((by rw [hg]; exact Nat.ne_of_gt (IsS93.lt (show IsS93 w0 _ g s0_0 t130 from by repeat (first | (with_reducible first | exact HI0.out | apply IsS93.alloc | apply IsS93.drewN | apply IsS93.drew | apply IsS93.set_1 | refine IsS93.far ?_ NB0_113.out _) | exact HI0.out))) : gb132 ≠ g))
    clear HI0 BK113 HK HB
    revert n0_ n1_ n2_ n3_ n4_ n5_ n6_ n7_ n8_ n9_ n10_
    intro HI0 BK113 HK HB BK132 GW132 GE132 NB113_132 NB132_113 NB0_132 NB132_0
    clear hb hbox hg
    refine hK.out _ _ trivial (fun hHeld => ?_)
    clear hK K
    refine norm_ (a' := ?_) ?_ ?_
    rotate_left
    ·show Act.put _ (some 3) _ = _
     simp only [Act.put, List.setIfInBounds_toArray, List.set_cons_zero, List.set_cons_succ, i64_w, i32_w]
     rfl
    exact norm_ (by first | (simp only [putAll, Act.put, List.setIfInBounds_toArray, List.set_cons_zero, List.set_cons_succ]; done) | (simp only [putAll, Act.put, List.setIfInBounds_toArray, List.set_cons_zero, List.set_cons_succ]; rfl)) (hJ1_4_7_11_14_18 (gb132) _ ⟨BK113.out, BK132.out, GW132.out, GE132.out, NB0_132.out, NB132_0.out, NB113_132.out, NB132_113.out, HI0.out, HK.out, HB.out⟩)
set_option maxHeartbeats 8000000 in
set_option maxRecDepth 100000 in
theorem spec_l31Out.j1_4_7_11_18 (k g : Nat) (s0_0 : List Int) (s0_1 : Int) (w0 w : World) (gb113 : Nat) (t114 t115 t116 t117 t121 t122 t124 t125 t129 t130 : Int) (y118 y126 : List Int) (K : Act → World → Prop) (post : Ending → World → Prop) (hC : spec_l31Out.CX k g s0_0 s0_1 w0 w gb113 t114 t115 t116 t117 t121 t122 t124 t125 t129 t130 y118 y126) (hJ1_4_5_7_11_18 : spec_l31Out.J1_4_5_7_11_18 k g s0_0 s0_1 w0 w gb113 t114 t115 t116 t117 t121 t122 t124 t125 t129 t130 y118 y126 K post) (hJ1_4_7_11_12_18 : spec_l31Out.J1_4_7_11_12_18 k g s0_0 s0_1 w0 w gb113 t114 t115 t116 t117 t121 t122 t124 t125 t129 t130 y118 y126 K post) (hJ1_4_7_11_14_18 : spec_l31Out.J1_4_7_11_14_18 k g s0_0 s0_1 w0 w gb113 t114 t115 t116 t117 t121 t122 t124 t125 t129 t130 y118 y126 K post) : spec_l31Out.J1_4_7_11_18 k g s0_0 s0_1 w0 w gb113 t114 t115 t116 t117 t121 t122 t124 t125 t129 t130 y118 y126 K post := by
 obtain ⟨HW0, A2, A3, Ny118, A4, A7, Ny126, A8, GW113, GE113, NB0_113, NB113_0, c5b0, c6b0, c9b0, c10b0⟩ := hC
 have HT_ := qM spec_l31Out.tabO
 have HW_ := qM spec_l31Out.bits1
 have pi123 : (0 ≤ (t121 : Int)) = True := eq_true (of_decide_eq_true c5b0)
 have qi123 : (t121 < (y118.length : Int)) = True := eq_true (of_decide_eq_true c6b0)
 have pi131 : (0 ≤ (t129 : Int)) = True := eq_true (of_decide_eq_true c9b0)
 have qi131 : (t129 < (y126.length : Int)) = True := eq_true (of_decide_eq_true c10b0)
 unfold spec_l31Out.J1_4_5_7_11_18 spec_l31Out.FR spec_l31Out.OPS at hJ1_4_5_7_11_18
 unfold spec_l31Out.J1_4_7_11_12_18 spec_l31Out.FR spec_l31Out.OPS at hJ1_4_7_11_12_18
 unfold spec_l31Out.J1_4_7_11_14_18 spec_l31Out.FR spec_l31Out.OPS at hJ1_4_7_11_14_18
 unfold spec_l31Out.J1_4_7_11_18 spec_l31Out.FR spec_l31Out.OPS
 ··skip
   rintro gb132 w21 ⟨h0_, h1_, h2_, h3_, h4_, h5_, h6_, h7_, h8_, h9_, h10_⟩
   have n0_ : Aside0 (w21.heap[gb113]? = some (.cells #[.int .i64 0, .int .i64 0, .int .i64 0, .int .i64 0] 53 (0, 0))) := ⟨h0_⟩
   have n1_ : Aside0 (w21.heap[gb132]? = some (.cells #[.int .i64 0, .int .i64 0, .int .i64 0, .int .i64 0] 53 (0, 0))) := ⟨h1_⟩
   have n2_ : Aside0 (w.heap.size ≤ gb132) := ⟨h2_⟩
   have n3_ : Aside0 (w0.heap.size ≤ gb132) := ⟨h3_⟩
   have n4_ : Aside0 (g ≠ gb132) := ⟨h4_⟩
   have n5_ : Aside0 (gb132 ≠ g) := ⟨h5_⟩
   have n6_ : Aside0 (gb113 ≠ gb132) := ⟨h6_⟩
   have n7_ : Aside0 (gb132 ≠ gb113) := ⟨h7_⟩
   have n8_ : Aside0 (IsS93 w0 w21 g s0_0 t125) := ⟨h8_⟩
   have n9_ : Aside0 (KeepBut w w21 g none) := ⟨h9_⟩
   have n10_ : Aside0 (Below w0.heap.size w0 w21) := ⟨h10_⟩
   clear h0_ h1_ h2_ h3_ h4_ h5_ h6_ h7_ h8_ h9_ h10_
   revert n0_ n1_ n2_ n3_ n4_ n5_ n6_ n7_ n8_ n9_ n10_
   intro BK113 BK132 GW132 GE132 NB0_132 NB132_0 NB113_132 NB132_113 HI0 HK HB
   have hHeld := trivial
   refine norm_ (a' := ?_) ?_ ?_
   rotate_left
   ·simp only [putAll, Act.put, List.setIfInBounds_toArray, List.set_cons_zero, List.set_cons_succ]
    rfl
   refine three_ (i := 5) (j := 12) (k := 14) (Ni := some 9) (Nj := some 16) (Nk := some 18) spec_l31Out.m55 spec_l31Out.m41 spec_l31Out.m44 rfl rfl rfl rfl rfl rfl (three_of HT_.out (by kernel_rfl)) (by decide) (by decide) (by decide) (fun K hK => ?_) (fun K hK => ?_) (fun K hK => ?_)
   ·skip
    refine Kd.R_lit_step (Kd.int .i64) _ 3 ?hg (N := 9) ?hd (xs := ([0, 1, 2, 199, 200] : List Int)) (inner := [.int .i64 0, .int .i64 1, .int .i64 2, .int .i64 199, .int .i64 200]) (ok := fun _ => True) (okp := fun _ => True) ?hr ?hp (fun _ hk => hk) trivial (Below.refl _ _) (Nat.le_refl _) (by simp) ?_; (case hd => rfl); (case hg => rfl); (case hr => first | (go_simp; done) | (go_simp; rfl)); (case hp => exact (Reps.one (show Kd.M (Kd.int .i64) _ _ _ 0 [.int .i64 0] from rfl) (Reps.one (show Kd.M (Kd.int .i64) _ _ _ 1 [.int .i64 1] from rfl) (Reps.one (show Kd.M (Kd.int .i64) _ _ _ 2 [.int .i64 2] from rfl) (Reps.one (show Kd.M (Kd.int .i64) _ _ _ 199 [.int .i64 199] from rfl) (Reps.one (show Kd.M (Kd.int .i64) _ _ _ 200 [.int .i64 200] from rfl) (Reps.none _ _)))))))
    intro v119 w22 ho23 hb hg_ hnew_
    clear hg_ hnew_
    (first | rw [← Ny118.out] at ho23 | (simp only [Int.reduceToNat] at ho23; rw [← Ny118.out] at ho23))
    have n0_ := qM (Kd.R_lower ho23 (keep_size (w := w) (g := g) (row := none) HK.out))
    have n1_ := qM (IsS93.below HI0.out hb)
    have n2_ := qM (blk_below (g := gb113) (o := .cells #[.int .i64 0, .int .i64 0, .int .i64 0, .int .i64 0] 53 (0, 0)) BK113.out hb)
    have n3_ := qM (blk_below (g := gb132) (o := .cells #[.int .i64 0, .int .i64 0, .int .i64 0, .int .i64 0] 53 (0, 0)) BK132.out hb)
    have n4_ := qM (KeepBut.trans HK.out (KeepBut.of_below hb g none) (.inl rfl))
    have n5_ := qM (below_step HB.out hb)
    clear HI0 BK113 BK132 HK HB
    revert n0_ n1_ n2_ n3_ n4_ n5_
    intro HO120 HI0 BK113 BK132 HK HB
    clear hb ho23
    obtain ⟨Ao24, co24, eo24⟩ := Kd.R_slice HO120.out
    subst eo24
    obtain ⟨ado24, fo24, _⟩ := Kd.at_int (qR HO120.out).2.2 0 (by decide) (by rw [Ny118.out]; simp)
    cases fo24
    refine hK.out _ _ trivial (fun hHeld => ?_)
    clear hK K
    refine norm_ (a' := ?_) ?_ ?_
    rotate_left
    ·show Act.put _ (some 9) _ = _
     simp only [Act.put, List.setIfInBounds_toArray, List.set_cons_zero, List.set_cons_succ, i64_w, i32_w]
     rfl
    refine pure_ (i := 8) (N := some 12) (v := ?_) (a' := ?_) spec_l31Out.m38 rfl rfl (any_of HT_.out (by kernel_rfl)) (fun _ _ _ h => h) (Or.inl ⟨by rfl, ?_⟩) ?_ ?_
    rotate_left
    ·intro w'
     go_simp
     with_reducible rfl
    rotate_left
    ·simp only [Act.put, List.setIfInBounds_toArray, List.set_cons_zero, List.set_cons_succ, i64_w, i32_w]
     rfl
    exact norm_ (by first | (simp only [putAll, Act.put, List.setIfInBounds_toArray, List.set_cons_zero, List.set_cons_succ]; done) | (simp only [putAll, Act.put, List.setIfInBounds_toArray, List.set_cons_zero, List.set_cons_succ]; rfl)) (hJ1_4_5_7_11_18 (.slice (some ado24) y118.length co24, ado24, gb132) _ ⟨HO120.out, ⟨_, rfl⟩, BK113.out, BK132.out, GW132.out, GE132.out, NB0_132.out, NB132_0.out, NB113_132.out, NB132_113.out, HI0.out, HK.out, HB.out⟩)
   ·skip
    refine Kd.R_lit_step (Kd.int .i64) _ 3 ?hg (N := 16) ?hd (xs := ([0, 1, 14, 15, t124] : List Int)) (inner := [.int .i64 0, .int .i64 1, .int .i64 14, .int .i64 15, .int .i64 t124]) (ok := fun _ => True) (okp := fun _ => True) ?hr ?hp (fun _ hk => hk) trivial (Below.refl _ _) (Nat.le_refl _) (by simp) ?_; (case hd => rfl); (case hg => rfl); (case hr => first | (go_simp; done) | (go_simp; rfl)); (case hp => exact (Reps.one (show Kd.M (Kd.int .i64) _ _ _ 0 [.int .i64 0] from rfl) (Reps.one (show Kd.M (Kd.int .i64) _ _ _ 1 [.int .i64 1] from rfl) (Reps.one (show Kd.M (Kd.int .i64) _ _ _ 14 [.int .i64 14] from rfl) (Reps.one (show Kd.M (Kd.int .i64) _ _ _ 15 [.int .i64 15] from rfl) (Reps.one (show Kd.M (Kd.int .i64) _ _ _ t124 [.int .i64 t124] from rfl) (Reps.none _ _)))))))
    intro v127 w22 ho23 hb hg_ hnew_
    clear hg_ hnew_
    (first | rw [← Ny126.out] at ho23 | (simp only [Int.reduceToNat] at ho23; rw [← Ny126.out] at ho23))
    have n0_ := qM (Kd.R_lower ho23 (keep_size (w := w) (g := g) (row := none) HK.out))
    have n1_ := qM (IsS93.below HI0.out hb)
    have n2_ := qM (blk_below (g := gb113) (o := .cells #[.int .i64 0, .int .i64 0, .int .i64 0, .int .i64 0] 53 (0, 0)) BK113.out hb)
    have n3_ := qM (blk_below (g := gb132) (o := .cells #[.int .i64 0, .int .i64 0, .int .i64 0, .int .i64 0] 53 (0, 0)) BK132.out hb)
    have n4_ := qM (KeepBut.trans HK.out (KeepBut.of_below hb g none) (.inl rfl))
    have n5_ := qM (below_step HB.out hb)
    clear HI0 BK113 BK132 HK HB
    revert n0_ n1_ n2_ n3_ n4_ n5_
    intro HO128 HI0 BK113 BK132 HK HB
    clear hb ho23
    obtain ⟨Ao24, co24, eo24⟩ := Kd.R_slice HO128.out
    subst eo24
    obtain ⟨ado24, fo24, _⟩ := Kd.at_int (qR HO128.out).2.2 0 (by decide) (by rw [Ny126.out]; simp)
    cases fo24
    refine hK.out _ _ trivial (fun hHeld => ?_)
    clear hK K
    refine norm_ (a' := ?_) ?_ ?_
    rotate_left
    ·show Act.put _ (some 16) _ = _
     simp only [Act.put, List.setIfInBounds_toArray, List.set_cons_zero, List.set_cons_succ, i64_w, i32_w]
     rfl
    exact norm_ (by first | (simp only [putAll, Act.put, List.setIfInBounds_toArray, List.set_cons_zero, List.set_cons_succ]; done) | (simp only [putAll, Act.put, List.setIfInBounds_toArray, List.set_cons_zero, List.set_cons_succ]; rfl)) (hJ1_4_7_11_12_18 (.slice (some ado24) y126.length co24, ado24, gb132) _ ⟨HO128.out, ⟨_, rfl⟩, BK113.out, BK132.out, GW132.out, GE132.out, NB0_132.out, NB132_0.out, NB113_132.out, NB132_113.out, HI0.out, HK.out, HB.out⟩)
   ·skip
    refine goes_ Try.func53 (by kernel_rfl) rfl #[.pointer (some ⟨g, 0, none⟩), .int .i64 5] (by rfl) rfl rfl (by (try simp only [List.map_toArray, List.map_cons, List.map_nil]); first | done | rfl | (simp only [List.length_drop, List.length_take]; rfl)) ?_
    with_reducible refine (spec_l30Rd_pick.calls k g s0_0 t125 5 t129 t130 w0 _ ?side1 ?side2 A8.out).mono ?_
    (case side1 => repeat (first | (with_reducible first | exact HI0.out | apply IsS93.alloc | apply IsS93.drewN | apply IsS93.drew | apply IsS93.set_1 | refine IsS93.far ?_ NB0_113.out _ | refine IsS93.far ?_ NB0_132.out _) | exact HI0.out))
    (case side2 => repeat (first | (with_reducible first | exact HB.out | apply yA | apply yN | apply yD | refine yS ?_ (IsS93.ge HI0.out) | refine yS ?_ GE113.out | refine yS ?_ GE132.out) | exact HB.out))
    rintro e w22 ⟨rfl, hi, hb, hk⟩
    refine ⟨_, rfl, ?_⟩
    have n0_ := qM (KeepBut.blk hk (g' := gb113) (o := .cells #[.int .i64 0, .int .i64 0, .int .i64 0, .int .i64 0] 53 (0, 0)) BK113.out NB113_0.out (by simp))
    have n1_ := qM (KeepBut.blk hk (g' := gb132) (o := .cells #[.int .i64 0, .int .i64 0, .int .i64 0, .int .i64 0] 53 (0, 0)) BK132.out NB132_0.out (by simp))
    have n2_ := qM (KeepBut.trans HK.out hk (.inl rfl))
    have n3_ := qM (hb)
    have n4_ := qM (hi)
    clear BK113 BK132 HK HB HI0
    revert n0_ n1_ n2_ n3_ n4_
    intro BK113 BK132 HK HB HI0
    (try clear hb)
    (try clear hb2)
    (try clear hk)
    (try clear hi)
    refine hK.out _ _ trivial (fun hHeld => ?_)
    clear hK K
    refine norm_ (a' := ?_) ?_ ?_
    rotate_left
    ·show Act.put _ (some 18) _ = _
     simp only [Act.put, List.setIfInBounds_toArray, List.set_cons_zero, List.set_cons_succ, i64_w, i32_w]
     rfl
    exact norm_ (by first | (simp only [putAll, Act.put, List.setIfInBounds_toArray, List.set_cons_zero, List.set_cons_succ]; done) | (simp only [putAll, Act.put, List.setIfInBounds_toArray, List.set_cons_zero, List.set_cons_succ]; rfl)) (hJ1_4_7_11_14_18 (gb132) _ ⟨BK113.out, BK132.out, GW132.out, GE132.out, NB0_132.out, NB132_0.out, NB113_132.out, NB132_113.out, HI0.out, HK.out, HB.out⟩)
set_option maxHeartbeats 8000000 in
set_option maxRecDepth 100000 in
theorem spec_l31Out.j1_4_5_7 (k g : Nat) (s0_0 : List Int) (s0_1 : Int) (w0 w : World) (gb113 : Nat) (t114 t115 t116 t117 t121 t122 t124 t125 t129 t130 : Int) (y118 y126 : List Int) (K : Act → World → Prop) (post : Ending → World → Prop) (hC : spec_l31Out.CX k g s0_0 s0_1 w0 w gb113 t114 t115 t116 t117 t121 t122 t124 t125 t129 t130 y118 y126) (hJ1_4_5_7_9 : spec_l31Out.J1_4_5_7_9 k g s0_0 s0_1 w0 w gb113 t114 t115 t116 t117 t121 t122 t124 t125 t129 t130 y118 y126 K post) (hJ1_4_5_7_11 : spec_l31Out.J1_4_5_7_11 k g s0_0 s0_1 w0 w gb113 t114 t115 t116 t117 t121 t122 t124 t125 t129 t130 y118 y126 K post) (hJ1_4_5_7_18 : spec_l31Out.J1_4_5_7_18 k g s0_0 s0_1 w0 w gb113 t114 t115 t116 t117 t121 t122 t124 t125 t129 t130 y118 y126 K post) : spec_l31Out.J1_4_5_7 k g s0_0 s0_1 w0 w gb113 t114 t115 t116 t117 t121 t122 t124 t125 t129 t130 y118 y126 K post := by
 obtain ⟨HW0, A2, A3, Ny118, A4, A7, Ny126, A8, GW113, GE113, NB0_113, NB113_0, c5b0, c6b0, c9b0, c10b0⟩ := hC
 have HT_ := qM spec_l31Out.tabO
 have HW_ := qM spec_l31Out.bits1
 have pi123 : (0 ≤ (t121 : Int)) = True := eq_true (of_decide_eq_true c5b0)
 have qi123 : (t121 < (y118.length : Int)) = True := eq_true (of_decide_eq_true c6b0)
 have pi131 : (0 ≤ (t129 : Int)) = True := eq_true (of_decide_eq_true c9b0)
 have qi131 : (t129 < (y126.length : Int)) = True := eq_true (of_decide_eq_true c10b0)
 unfold spec_l31Out.J1_4_5_7_9 spec_l31Out.FR spec_l31Out.OPS at hJ1_4_5_7_9
 unfold spec_l31Out.J1_4_5_7_11 spec_l31Out.FR spec_l31Out.OPS at hJ1_4_5_7_11
 unfold spec_l31Out.J1_4_5_7_18 spec_l31Out.FR spec_l31Out.OPS at hJ1_4_5_7_18
 unfold spec_l31Out.J1_4_5_7 spec_l31Out.FR spec_l31Out.OPS
 ··skip
   rintro ⟨v119, adz_v119⟩ w22 ⟨h0_, h1_, h2_, h3_, h4_, h5_⟩
   have n0_ : Aside0 (Kd.R (Kd.int .i64) 3 w22 w.heap.size (fun _ => True) v119 y118) := ⟨h0_⟩
   have n1_ : Aside0 (∃ c_, (v119 : Value) = .slice (some adz_v119) y118.length c_) := ⟨h1_⟩
   have n2_ : Aside0 (w22.heap[gb113]? = some (.cells #[.int .i64 0, .int .i64 0, .int .i64 0, .int .i64 0] 53 (0, 0))) := ⟨h2_⟩
   have n3_ : Aside0 (IsS93 w0 w22 g s0_0 t122) := ⟨h3_⟩
   have n4_ : Aside0 (KeepBut w w22 g none) := ⟨h4_⟩
   have n5_ : Aside0 (Below w0.heap.size w0 w22) := ⟨h5_⟩
   clear h0_ h1_ h2_ h3_ h4_ h5_
   revert n0_ n1_ n2_ n3_ n4_ n5_
   intro HO120 HA_HO120 BK113 HI0 HK HB
   have hHeld := trivial
   obtain ⟨co23, eo23⟩ := HA_HO120.out
   clear HA_HO120
   subst eo23
   refine norm_ (a' := ?_) ?_ ?_
   rotate_left
   ·simp only [putAll, Act.put, List.setIfInBounds_toArray, List.set_cons_zero, List.set_cons_succ]
    rfl
   refine three_ (i := 9) (j := 11) (k := 18) (Ni := some 13) (Nj := some 15) (Nk := some 3) spec_l31Out.m46 spec_l31Out.m47 spec_l31Out.m48 rfl rfl rfl rfl rfl rfl (three_of HT_.out (by kernel_rfl)) (by decide) (by decide) (by decide) (fun K hK => ?_) (fun K hK => ?_) (fun K hK => ?_)
   ·skip
    (have p123 : 0 ≤ (t121 : Int) := of_decide_eq_true (by first | (with_reducible assumption) | assumption); have q123 : t121 < (y118.length : Int) := of_decide_eq_true (by first | (with_reducible assumption) | assumption); obtain ⟨ad123, e123, hx123_0⟩ := Kd.at_int (qR HO120.out).2.2 t121 p123 q123; obtain rfl : adz_v119 = ad123 := (by injection e123))
    refine value_ (w1 := ?_) (v := ?_) (by rfl) rfl ?_ ?_
    rotate_left 2
    ·go_simp
     constructor
     ·rfl
     ·rfl
    clear hx123_0
    refine hK.out _ _ trivial (fun hHeld => ?_)
    clear hK K
    refine norm_ (a' := ?_) ?_ ?_
    rotate_left
    ·show Act.put _ (some 13) _ = _
     simp only [Act.put, List.setIfInBounds_toArray, List.set_cons_zero, List.set_cons_succ, i64_w, i32_w]
     rfl
    exact norm_ (by first | (simp only [putAll, Act.put, List.setIfInBounds_toArray, List.set_cons_zero, List.set_cons_succ]; done) | (simp only [putAll, Act.put, List.setIfInBounds_toArray, List.set_cons_zero, List.set_cons_succ]; rfl)) (hJ1_4_5_7_9 (.slice (some adz_v119) y118.length co23, adz_v119) _ ⟨HO120.out, ⟨_, rfl⟩, BK113.out, HI0.out, HK.out, HB.out⟩)
   ·skip
    refine goes_ Try.func53 (by kernel_rfl) rfl #[.pointer (some ⟨g, 0, none⟩), .int .i64 16] (by rfl) rfl rfl (by (try simp only [List.map_toArray, List.map_cons, List.map_nil]); first | done | rfl | (simp only [List.length_drop, List.length_take]; rfl)) ?_
    with_reducible refine (spec_l30Rd_pick.calls k g s0_0 t122 16 t124 t125 w0 _ ?side1 ?side2 A7.out).mono ?_
    (case side1 => repeat (first | (with_reducible first | exact HI0.out | apply IsS93.alloc | apply IsS93.drewN | apply IsS93.drew | apply IsS93.set_1 | refine IsS93.far ?_ NB0_113.out _) | exact HI0.out))
    (case side2 => repeat (first | (with_reducible first | exact HB.out | apply yA | apply yN | apply yD | refine yS ?_ (IsS93.ge HI0.out) | refine yS ?_ GE113.out) | exact HB.out))
    rintro e w24 ⟨rfl, hi, hb, hk⟩
    refine ⟨_, rfl, ?_⟩
    have n0_ := qM (KeepBut.blk hk (g' := gb113) (o := .cells #[.int .i64 0, .int .i64 0, .int .i64 0, .int .i64 0] 53 (0, 0)) BK113.out NB113_0.out (by simp))
    have n1_ := qM (Kd.R_mono (Kd.R_keep (IsS93.apart (show IsS93 w0 _ g s0_0 t122 from by repeat (first | (with_reducible first | exact HI0.out | apply IsS93.alloc | apply IsS93.drewN | apply IsS93.drew | apply IsS93.set_1 | refine IsS93.far ?_ NB0_113.out _) | exact HI0.out)) HO120.out (by decide)) hk (fun _ h => h.2)) (fun _ h => h.1))
    have n2_ := qM (KeepBut.trans HK.out hk (.inl rfl))
    have n3_ := qM (hb)
    have n4_ := qM (hi)
    clear BK113 HO120 HK HB HI0
    revert n0_ n1_ n2_ n3_ n4_
    intro BK113 HO120 HK HB HI0
    (try clear hb)
    (try clear hb2)
    (try clear hk)
    (try clear hi)
    refine hK.out _ _ trivial (fun hHeld => ?_)
    clear hK K
    refine norm_ (a' := ?_) ?_ ?_
    rotate_left
    ·show Act.put _ (some 15) _ = _
     simp only [Act.put, List.setIfInBounds_toArray, List.set_cons_zero, List.set_cons_succ, i64_w, i32_w]
     rfl
    exact norm_ (by first | (simp only [putAll, Act.put, List.setIfInBounds_toArray, List.set_cons_zero, List.set_cons_succ]; done) | (simp only [putAll, Act.put, List.setIfInBounds_toArray, List.set_cons_zero, List.set_cons_succ]; rfl)) (hJ1_4_5_7_11 (.slice (some adz_v119) y118.length co23, adz_v119) _ ⟨HO120.out, ⟨_, rfl⟩, BK113.out, HI0.out, HK.out, HB.out⟩)
   ·skip
    refine box_step ?hg (N := 3) ?hd (cs := #[.int .i64 0, .int .i64 0, .int .i64 0, .int .i64 0]) (t := 53) ?hr ?_; (case hd => rfl); (case hg => rfl); (case hr => first | (go_simp; done) | (go_simp; rfl))
    intro gb132 hg w24 hbox hb
    have n0_ := qM (Kd.R_below HO120.out hb)
    have n1_ := qM (IsS93.below HI0.out hb)
    have n2_ := qM (blk_below (g := gb113) (o := .cells #[.int .i64 0, .int .i64 0, .int .i64 0, .int .i64 0] 53 (0, 0)) BK113.out hb)
    have n3_ := qM (KeepBut.trans HK.out (KeepBut.of_below hb g none) (.inl rfl))
    have n4_ := qM (below_step HB.out hb)
    have n5_ := qM (hbox)
    have n6_ := qM ((by rw [hg]; exact (keep_size (w := w) (g := g) (row := none) HK.out) : w.heap.size ≤ gb132))
    have n7_ := qM ((Nat.le_trans HW0.out (by rw [hg]; exact (keep_size (w := w) (g := g) (row := none) HK.out) : w.heap.size ≤ gb132) : w0.heap.size ≤ gb132))
    have n8_ := qM ((by rw [hg]; exact Nat.ne_of_lt (blk_lt (g := gb113) (o := .cells #[.int .i64 0, .int .i64 0, .int .i64 0, .int .i64 0] 53 (0, 0)) BK113.out) : gb113 ≠ gb132))
    have n9_ := qM ((by rw [hg]; exact Nat.ne_of_gt (blk_lt (g := gb113) (o := .cells #[.int .i64 0, .int .i64 0, .int .i64 0, .int .i64 0] 53 (0, 0)) BK113.out) : gb132 ≠ gb113))
    have n10_ := qM ((by rw [hg]; exact Nat.ne_of_lt (IsS93.lt (show IsS93 w0 _ g s0_0 t122 from by repeat (first | (with_reducible first | exact HI0.out | apply IsS93.alloc | apply IsS93.drewN | apply IsS93.drew | apply IsS93.set_1 | refine IsS93.far ?_ NB0_113.out _) | exact HI0.out))) : g ≠ gb132))
    have n11_ := qM ((by rw [hg]; exact Nat.ne_of_gt (IsS93.lt (show IsS93 w0 _ g s0_0 t122 from by repeat (first | (with_reducible first | exact HI0.out | apply IsS93.alloc | apply IsS93.drewN | apply IsS93.drew | apply IsS93.set_1 | refine IsS93.far ?_ NB0_113.out _) | exact HI0.out))) : gb132 ≠ g))
    clear HO120 HI0 BK113 HK HB
    revert n0_ n1_ n2_ n3_ n4_ n5_ n6_ n7_ n8_ n9_ n10_ n11_
    intro HO120 HI0 BK113 HK HB BK132 GW132 GE132 NB113_132 NB132_113 NB0_132 NB132_0
    clear hb hbox hg
    refine hK.out _ _ trivial (fun hHeld => ?_)
    clear hK K
    refine norm_ (a' := ?_) ?_ ?_
    rotate_left
    ·show Act.put _ (some 3) _ = _
     simp only [Act.put, List.setIfInBounds_toArray, List.set_cons_zero, List.set_cons_succ, i64_w, i32_w]
     rfl
    exact norm_ (by first | (simp only [putAll, Act.put, List.setIfInBounds_toArray, List.set_cons_zero, List.set_cons_succ]; done) | (simp only [putAll, Act.put, List.setIfInBounds_toArray, List.set_cons_zero, List.set_cons_succ]; rfl)) (hJ1_4_5_7_18 (.slice (some adz_v119) y118.length co23, adz_v119, gb132) _ ⟨HO120.out, ⟨_, rfl⟩, BK113.out, BK132.out, GW132.out, GE132.out, NB0_132.out, NB132_0.out, NB113_132.out, NB132_113.out, HI0.out, HK.out, HB.out⟩)
set_option maxHeartbeats 8000000 in
set_option maxRecDepth 100000 in
theorem spec_l31Out.j1_4_5_18 (k g : Nat) (s0_0 : List Int) (s0_1 : Int) (w0 w : World) (gb113 : Nat) (t114 t115 t116 t117 t121 t122 t124 t125 t129 t130 : Int) (y118 y126 : List Int) (K : Act → World → Prop) (post : Ending → World → Prop) (hC : spec_l31Out.CX k g s0_0 s0_1 w0 w gb113 t114 t115 t116 t117 t121 t122 t124 t125 t129 t130 y118 y126) (hJ1_4_5_7_18 : spec_l31Out.J1_4_5_7_18 k g s0_0 s0_1 w0 w gb113 t114 t115 t116 t117 t121 t122 t124 t125 t129 t130 y118 y126 K post) : spec_l31Out.J1_4_5_18 k g s0_0 s0_1 w0 w gb113 t114 t115 t116 t117 t121 t122 t124 t125 t129 t130 y118 y126 K post := by
 obtain ⟨HW0, A2, A3, Ny118, A4, A7, Ny126, A8, GW113, GE113, NB0_113, NB113_0, c5b0, c6b0, c9b0, c10b0⟩ := hC
 have HT_ := qM spec_l31Out.tabO
 have HW_ := qM spec_l31Out.bits1
 have pi123 : (0 ≤ (t121 : Int)) = True := eq_true (of_decide_eq_true c5b0)
 have qi123 : (t121 < (y118.length : Int)) = True := eq_true (of_decide_eq_true c6b0)
 have pi131 : (0 ≤ (t129 : Int)) = True := eq_true (of_decide_eq_true c9b0)
 have qi131 : (t129 < (y126.length : Int)) = True := eq_true (of_decide_eq_true c10b0)
 unfold spec_l31Out.J1_4_5_7_18 spec_l31Out.FR spec_l31Out.OPS at hJ1_4_5_7_18
 unfold spec_l31Out.J1_4_5_18 spec_l31Out.FR spec_l31Out.OPS
 ··skip
   rintro ⟨v119, adz_v119, gb132⟩ w22 ⟨h0_, h1_, h2_, h3_, h4_, h5_, h6_, h7_, h8_, h9_, h10_, h11_, h12_⟩
   have n0_ : Aside0 (Kd.R (Kd.int .i64) 3 w22 w.heap.size (fun _ => True) v119 y118) := ⟨h0_⟩
   have n1_ : Aside0 (∃ c_, (v119 : Value) = .slice (some adz_v119) y118.length c_) := ⟨h1_⟩
   have n2_ : Aside0 (w22.heap[gb113]? = some (.cells #[.int .i64 0, .int .i64 0, .int .i64 0, .int .i64 0] 53 (0, 0))) := ⟨h2_⟩
   have n3_ : Aside0 (w22.heap[gb132]? = some (.cells #[.int .i64 0, .int .i64 0, .int .i64 0, .int .i64 0] 53 (0, 0))) := ⟨h3_⟩
   have n4_ : Aside0 (w.heap.size ≤ gb132) := ⟨h4_⟩
   have n5_ : Aside0 (w0.heap.size ≤ gb132) := ⟨h5_⟩
   have n6_ : Aside0 (g ≠ gb132) := ⟨h6_⟩
   have n7_ : Aside0 (gb132 ≠ g) := ⟨h7_⟩
   have n8_ : Aside0 (gb113 ≠ gb132) := ⟨h8_⟩
   have n9_ : Aside0 (gb132 ≠ gb113) := ⟨h9_⟩
   have n10_ : Aside0 (IsS93 w0 w22 g s0_0 t117) := ⟨h10_⟩
   have n11_ : Aside0 (KeepBut w w22 g none) := ⟨h11_⟩
   have n12_ : Aside0 (Below w0.heap.size w0 w22) := ⟨h12_⟩
   clear h0_ h1_ h2_ h3_ h4_ h5_ h6_ h7_ h8_ h9_ h10_ h11_ h12_
   revert n0_ n1_ n2_ n3_ n4_ n5_ n6_ n7_ n8_ n9_ n10_ n11_ n12_
   intro HO120 HA_HO120 BK113 BK132 GW132 GE132 NB0_132 NB132_0 NB113_132 NB132_113 HI0 HK HB
   have hHeld := trivial
   obtain ⟨co23, eo23⟩ := HA_HO120.out
   clear HA_HO120
   subst eo23
   refine norm_ (a' := ?_) ?_ ?_
   rotate_left
   ·simp only [putAll, Act.put, List.setIfInBounds_toArray, List.set_cons_zero, List.set_cons_succ]
    rfl
   refine one_ (i := 7) (N := some 11) spec_l31Out.m58 rfl rfl (one_of HT_.out (by kernel_rfl)) (by decide) (fun K hK => ?_)
   refine goes_ Try.func53 (by kernel_rfl) rfl #[.pointer (some ⟨g, 0, none⟩), .int .i64 5] (by rfl) rfl rfl (by (try simp only [List.map_toArray, List.map_cons, List.map_nil]); first | done | rfl | (simp only [List.length_drop, List.length_take]; rfl)) ?_
   with_reducible refine (spec_l30Rd_pick.calls k g s0_0 t117 5 t121 t122 w0 _ ?side1 ?side2 A4.out).mono ?_
   (case side1 => repeat (first | (with_reducible first | exact HI0.out | apply IsS93.alloc | apply IsS93.drewN | apply IsS93.drew | apply IsS93.set_1 | refine IsS93.far ?_ NB0_113.out _ | refine IsS93.far ?_ NB0_132.out _) | exact HI0.out))
   (case side2 => repeat (first | (with_reducible first | exact HB.out | apply yA | apply yN | apply yD | refine yS ?_ (IsS93.ge HI0.out) | refine yS ?_ GE113.out | refine yS ?_ GE132.out) | exact HB.out))
   rintro e w24 ⟨rfl, hi, hb, hk⟩
   refine ⟨_, rfl, ?_⟩
   have n0_ := qM (KeepBut.blk hk (g' := gb113) (o := .cells #[.int .i64 0, .int .i64 0, .int .i64 0, .int .i64 0] 53 (0, 0)) BK113.out NB113_0.out (by simp))
   have n1_ := qM (Kd.R_mono (Kd.R_keep (IsS93.apart (show IsS93 w0 _ g s0_0 t117 from by repeat (first | (with_reducible first | exact HI0.out | apply IsS93.alloc | apply IsS93.drewN | apply IsS93.drew | apply IsS93.set_1 | refine IsS93.far ?_ NB0_113.out _ | refine IsS93.far ?_ NB0_132.out _) | exact HI0.out)) HO120.out (by decide)) hk (fun _ h => h.2)) (fun _ h => h.1))
   have n2_ := qM (KeepBut.blk hk (g' := gb132) (o := .cells #[.int .i64 0, .int .i64 0, .int .i64 0, .int .i64 0] 53 (0, 0)) BK132.out NB132_0.out (by simp))
   have n3_ := qM (KeepBut.trans HK.out hk (.inl rfl))
   have n4_ := qM (hb)
   have n5_ := qM (hi)
   clear BK113 HO120 BK132 HK HB HI0
   revert n0_ n1_ n2_ n3_ n4_ n5_
   intro BK113 HO120 BK132 HK HB HI0
   (try clear hb)
   (try clear hb2)
   (try clear hk)
   (try clear hi)
   refine hK.out _ _ trivial (fun hHeld => ?_)
   clear hK K
   refine norm_ (a' := ?_) ?_ ?_
   rotate_left
   ·show Act.put _ (some 11) _ = _
    simp only [Act.put, List.setIfInBounds_toArray, List.set_cons_zero, List.set_cons_succ, i64_w, i32_w]
    rfl
   refine pure_ (i := 8) (N := some 12) (v := ?_) (a' := ?_) spec_l31Out.m48 rfl rfl (any_of HT_.out (by kernel_rfl)) (fun _ _ _ h => h) (Or.inl ⟨by rfl, ?_⟩) ?_ ?_
   rotate_left
   ·intro w'
    go_simp
    with_reducible rfl
   rotate_left
   ·simp only [Act.put, List.setIfInBounds_toArray, List.set_cons_zero, List.set_cons_succ, i64_w, i32_w]
    rfl
   exact norm_ (by first | (simp only [putAll, Act.put, List.setIfInBounds_toArray, List.set_cons_zero, List.set_cons_succ]; done) | (simp only [putAll, Act.put, List.setIfInBounds_toArray, List.set_cons_zero, List.set_cons_succ]; rfl)) (hJ1_4_5_7_18 (.slice (some adz_v119) y118.length co23, adz_v119, gb132) _ ⟨HO120.out, ⟨_, rfl⟩, BK113.out, BK132.out, GW132.out, GE132.out, NB0_132.out, NB132_0.out, NB113_132.out, NB132_113.out, HI0.out, HK.out, HB.out⟩)
set_option maxHeartbeats 8000000 in
set_option maxRecDepth 100000 in
theorem spec_l31Out.j1_4_7_11 (k g : Nat) (s0_0 : List Int) (s0_1 : Int) (w0 w : World) (gb113 : Nat) (t114 t115 t116 t117 t121 t122 t124 t125 t129 t130 : Int) (y118 y126 : List Int) (K : Act → World → Prop) (post : Ending → World → Prop) (hC : spec_l31Out.CX k g s0_0 s0_1 w0 w gb113 t114 t115 t116 t117 t121 t122 t124 t125 t129 t130 y118 y126) (hJ1_4_5_7_11 : spec_l31Out.J1_4_5_7_11 k g s0_0 s0_1 w0 w gb113 t114 t115 t116 t117 t121 t122 t124 t125 t129 t130 y118 y126 K post) (hJ1_4_7_11_12 : spec_l31Out.J1_4_7_11_12 k g s0_0 s0_1 w0 w gb113 t114 t115 t116 t117 t121 t122 t124 t125 t129 t130 y118 y126 K post) (hJ1_4_7_11_14 : spec_l31Out.J1_4_7_11_14 k g s0_0 s0_1 w0 w gb113 t114 t115 t116 t117 t121 t122 t124 t125 t129 t130 y118 y126 K post) (hJ1_4_7_11_18 : spec_l31Out.J1_4_7_11_18 k g s0_0 s0_1 w0 w gb113 t114 t115 t116 t117 t121 t122 t124 t125 t129 t130 y118 y126 K post) : spec_l31Out.J1_4_7_11 k g s0_0 s0_1 w0 w gb113 t114 t115 t116 t117 t121 t122 t124 t125 t129 t130 y118 y126 K post := by
 obtain ⟨HW0, A2, A3, Ny118, A4, A7, Ny126, A8, GW113, GE113, NB0_113, NB113_0, c5b0, c6b0, c9b0, c10b0⟩ := hC
 have HT_ := qM spec_l31Out.tabO
 have HW_ := qM spec_l31Out.bits1
 have pi123 : (0 ≤ (t121 : Int)) = True := eq_true (of_decide_eq_true c5b0)
 have qi123 : (t121 < (y118.length : Int)) = True := eq_true (of_decide_eq_true c6b0)
 have pi131 : (0 ≤ (t129 : Int)) = True := eq_true (of_decide_eq_true c9b0)
 have qi131 : (t129 < (y126.length : Int)) = True := eq_true (of_decide_eq_true c10b0)
 unfold spec_l31Out.J1_4_5_7_11 spec_l31Out.FR spec_l31Out.OPS at hJ1_4_5_7_11
 unfold spec_l31Out.J1_4_7_11_12 spec_l31Out.FR spec_l31Out.OPS at hJ1_4_7_11_12
 unfold spec_l31Out.J1_4_7_11_14 spec_l31Out.FR spec_l31Out.OPS at hJ1_4_7_11_14
 unfold spec_l31Out.J1_4_7_11_18 spec_l31Out.FR spec_l31Out.OPS at hJ1_4_7_11_18
 unfold spec_l31Out.J1_4_7_11 spec_l31Out.FR spec_l31Out.OPS
 ··skip
   rintro _ w20 ⟨h0_, h1_, h2_, h3_⟩
   have n0_ : Aside0 (w20.heap[gb113]? = some (.cells #[.int .i64 0, .int .i64 0, .int .i64 0, .int .i64 0] 53 (0, 0))) := ⟨h0_⟩
   have n1_ : Aside0 (IsS93 w0 w20 g s0_0 t125) := ⟨h1_⟩
   have n2_ : Aside0 (KeepBut w w20 g none) := ⟨h2_⟩
   have n3_ : Aside0 (Below w0.heap.size w0 w20) := ⟨h3_⟩
   clear h0_ h1_ h2_ h3_
   revert n0_ n1_ n2_ n3_
   intro BK113 HI0 HK HB
   have hHeld := trivial
   refine norm_ (a' := ?_) ?_ ?_
   rotate_left
   ·simp only [putAll, Act.put, List.setIfInBounds_toArray, List.set_cons_zero, List.set_cons_succ]
    rfl
   refine four_ (i := 5) (j := 12) (k := 14) (m := 18) (Ni := some 9) (Nj := some 16) (Nk := some 18) (Nm := some 3) spec_l31Out.m60 spec_l31Out.m49 spec_l31Out.m52 spec_l31Out.m54 rfl rfl rfl rfl rfl rfl rfl rfl (four_of HT_.out (by kernel_rfl)) (by decide) (by decide) (by decide) (by decide) (fun K hK => ?_) (fun K hK => ?_) (fun K hK => ?_) (fun K hK => ?_)
   ·skip
    refine Kd.R_lit_step (Kd.int .i64) _ 3 ?hg (N := 9) ?hd (xs := ([0, 1, 2, 199, 200] : List Int)) (inner := [.int .i64 0, .int .i64 1, .int .i64 2, .int .i64 199, .int .i64 200]) (ok := fun _ => True) (okp := fun _ => True) ?hr ?hp (fun _ hk => hk) trivial (Below.refl _ _) (Nat.le_refl _) (by simp) ?_; (case hd => rfl); (case hg => rfl); (case hr => first | (go_simp; done) | (go_simp; rfl)); (case hp => exact (Reps.one (show Kd.M (Kd.int .i64) _ _ _ 0 [.int .i64 0] from rfl) (Reps.one (show Kd.M (Kd.int .i64) _ _ _ 1 [.int .i64 1] from rfl) (Reps.one (show Kd.M (Kd.int .i64) _ _ _ 2 [.int .i64 2] from rfl) (Reps.one (show Kd.M (Kd.int .i64) _ _ _ 199 [.int .i64 199] from rfl) (Reps.one (show Kd.M (Kd.int .i64) _ _ _ 200 [.int .i64 200] from rfl) (Reps.none _ _)))))))
    intro v119 w21 ho22 hb hg_ hnew_
    clear hg_ hnew_
    (first | rw [← Ny118.out] at ho22 | (simp only [Int.reduceToNat] at ho22; rw [← Ny118.out] at ho22))
    have n0_ := qM (Kd.R_lower ho22 (keep_size (w := w) (g := g) (row := none) HK.out))
    have n1_ := qM (IsS93.below HI0.out hb)
    have n2_ := qM (blk_below (g := gb113) (o := .cells #[.int .i64 0, .int .i64 0, .int .i64 0, .int .i64 0] 53 (0, 0)) BK113.out hb)
    have n3_ := qM (KeepBut.trans HK.out (KeepBut.of_below hb g none) (.inl rfl))
    have n4_ := qM (below_step HB.out hb)
    clear HI0 BK113 HK HB
    revert n0_ n1_ n2_ n3_ n4_
    intro HO120 HI0 BK113 HK HB
    clear hb ho22
    obtain ⟨Ao23, co23, eo23⟩ := Kd.R_slice HO120.out
    subst eo23
    obtain ⟨ado23, fo23, _⟩ := Kd.at_int (qR HO120.out).2.2 0 (by decide) (by rw [Ny118.out]; simp)
    cases fo23
    refine hK.out _ _ trivial (fun hHeld => ?_)
    clear hK K
    refine norm_ (a' := ?_) ?_ ?_
    rotate_left
    ·show Act.put _ (some 9) _ = _
     simp only [Act.put, List.setIfInBounds_toArray, List.set_cons_zero, List.set_cons_succ, i64_w, i32_w]
     rfl
    refine pure_ (i := 8) (N := some 12) (v := ?_) (a' := ?_) spec_l31Out.m47 rfl rfl (any_of HT_.out (by kernel_rfl)) (fun _ _ _ h => h) (Or.inl ⟨by rfl, ?_⟩) ?_ ?_
    rotate_left
    ·intro w'
     go_simp
     with_reducible rfl
    rotate_left
    ·simp only [Act.put, List.setIfInBounds_toArray, List.set_cons_zero, List.set_cons_succ, i64_w, i32_w]
     rfl
    exact norm_ (by first | (simp only [putAll, Act.put, List.setIfInBounds_toArray, List.set_cons_zero, List.set_cons_succ]; done) | (simp only [putAll, Act.put, List.setIfInBounds_toArray, List.set_cons_zero, List.set_cons_succ]; rfl)) (hJ1_4_5_7_11 (.slice (some ado23) y118.length co23, ado23) _ ⟨HO120.out, ⟨_, rfl⟩, BK113.out, HI0.out, HK.out, HB.out⟩)
   ·skip
    refine Kd.R_lit_step (Kd.int .i64) _ 3 ?hg (N := 16) ?hd (xs := ([0, 1, 14, 15, t124] : List Int)) (inner := [.int .i64 0, .int .i64 1, .int .i64 14, .int .i64 15, .int .i64 t124]) (ok := fun _ => True) (okp := fun _ => True) ?hr ?hp (fun _ hk => hk) trivial (Below.refl _ _) (Nat.le_refl _) (by simp) ?_; (case hd => rfl); (case hg => rfl); (case hr => first | (go_simp; done) | (go_simp; rfl)); (case hp => exact (Reps.one (show Kd.M (Kd.int .i64) _ _ _ 0 [.int .i64 0] from rfl) (Reps.one (show Kd.M (Kd.int .i64) _ _ _ 1 [.int .i64 1] from rfl) (Reps.one (show Kd.M (Kd.int .i64) _ _ _ 14 [.int .i64 14] from rfl) (Reps.one (show Kd.M (Kd.int .i64) _ _ _ 15 [.int .i64 15] from rfl) (Reps.one (show Kd.M (Kd.int .i64) _ _ _ t124 [.int .i64 t124] from rfl) (Reps.none _ _)))))))
    intro v127 w21 ho22 hb hg_ hnew_
    clear hg_ hnew_
    (first | rw [← Ny126.out] at ho22 | (simp only [Int.reduceToNat] at ho22; rw [← Ny126.out] at ho22))
    have n0_ := qM (Kd.R_lower ho22 (keep_size (w := w) (g := g) (row := none) HK.out))
    have n1_ := qM (IsS93.below HI0.out hb)
    have n2_ := qM (blk_below (g := gb113) (o := .cells #[.int .i64 0, .int .i64 0, .int .i64 0, .int .i64 0] 53 (0, 0)) BK113.out hb)
    have n3_ := qM (KeepBut.trans HK.out (KeepBut.of_below hb g none) (.inl rfl))
    have n4_ := qM (below_step HB.out hb)
    clear HI0 BK113 HK HB
    revert n0_ n1_ n2_ n3_ n4_
    intro HO128 HI0 BK113 HK HB
    clear hb ho22
    obtain ⟨Ao23, co23, eo23⟩ := Kd.R_slice HO128.out
    subst eo23
    obtain ⟨ado23, fo23, _⟩ := Kd.at_int (qR HO128.out).2.2 0 (by decide) (by rw [Ny126.out]; simp)
    cases fo23
    refine hK.out _ _ trivial (fun hHeld => ?_)
    clear hK K
    refine norm_ (a' := ?_) ?_ ?_
    rotate_left
    ·show Act.put _ (some 16) _ = _
     simp only [Act.put, List.setIfInBounds_toArray, List.set_cons_zero, List.set_cons_succ, i64_w, i32_w]
     rfl
    exact norm_ (by first | (simp only [putAll, Act.put, List.setIfInBounds_toArray, List.set_cons_zero, List.set_cons_succ]; done) | (simp only [putAll, Act.put, List.setIfInBounds_toArray, List.set_cons_zero, List.set_cons_succ]; rfl)) (hJ1_4_7_11_12 (.slice (some ado23) y126.length co23, ado23) _ ⟨HO128.out, ⟨_, rfl⟩, BK113.out, HI0.out, HK.out, HB.out⟩)
   ·skip
    refine goes_ Try.func53 (by kernel_rfl) rfl #[.pointer (some ⟨g, 0, none⟩), .int .i64 5] (by rfl) rfl rfl (by (try simp only [List.map_toArray, List.map_cons, List.map_nil]); first | done | rfl | (simp only [List.length_drop, List.length_take]; rfl)) ?_
    with_reducible refine (spec_l30Rd_pick.calls k g s0_0 t125 5 t129 t130 w0 _ ?side1 ?side2 A8.out).mono ?_
    (case side1 => repeat (first | (with_reducible first | exact HI0.out | apply IsS93.alloc | apply IsS93.drewN | apply IsS93.drew | apply IsS93.set_1 | refine IsS93.far ?_ NB0_113.out _) | exact HI0.out))
    (case side2 => repeat (first | (with_reducible first | exact HB.out | apply yA | apply yN | apply yD | refine yS ?_ (IsS93.ge HI0.out) | refine yS ?_ GE113.out) | exact HB.out))
    rintro e w21 ⟨rfl, hi, hb, hk⟩
    refine ⟨_, rfl, ?_⟩
    have n0_ := qM (KeepBut.blk hk (g' := gb113) (o := .cells #[.int .i64 0, .int .i64 0, .int .i64 0, .int .i64 0] 53 (0, 0)) BK113.out NB113_0.out (by simp))
    have n1_ := qM (KeepBut.trans HK.out hk (.inl rfl))
    have n2_ := qM (hb)
    have n3_ := qM (hi)
    clear BK113 HK HB HI0
    revert n0_ n1_ n2_ n3_
    intro BK113 HK HB HI0
    (try clear hb)
    (try clear hb2)
    (try clear hk)
    (try clear hi)
    refine hK.out _ _ trivial (fun hHeld => ?_)
    clear hK K
    refine norm_ (a' := ?_) ?_ ?_
    rotate_left
    ·show Act.put _ (some 18) _ = _
     simp only [Act.put, List.setIfInBounds_toArray, List.set_cons_zero, List.set_cons_succ, i64_w, i32_w]
     rfl
    exact norm_ (by first | (simp only [putAll, Act.put, List.setIfInBounds_toArray, List.set_cons_zero, List.set_cons_succ]; done) | (simp only [putAll, Act.put, List.setIfInBounds_toArray, List.set_cons_zero, List.set_cons_succ]; rfl)) (hJ1_4_7_11_14 () _ ⟨BK113.out, HI0.out, HK.out, HB.out⟩)
   ·skip
    refine box_step ?hg (N := 3) ?hd (cs := #[.int .i64 0, .int .i64 0, .int .i64 0, .int .i64 0]) (t := 53) ?hr ?_; (case hd => rfl); (case hg => rfl); (case hr => first | (go_simp; done) | (go_simp; rfl))
    intro gb132 hg w21 hbox hb
    have n0_ := qM (IsS93.below HI0.out hb)
    have n1_ := qM (blk_below (g := gb113) (o := .cells #[.int .i64 0, .int .i64 0, .int .i64 0, .int .i64 0] 53 (0, 0)) BK113.out hb)
    have n2_ := qM (KeepBut.trans HK.out (KeepBut.of_below hb g none) (.inl rfl))
    have n3_ := qM (below_step HB.out hb)
    have n4_ := qM (hbox)
    have n5_ := qM ((by rw [hg]; exact (keep_size (w := w) (g := g) (row := none) HK.out) : w.heap.size ≤ gb132))
    have n6_ := qM ((Nat.le_trans HW0.out (by rw [hg]; exact (keep_size (w := w) (g := g) (row := none) HK.out) : w.heap.size ≤ gb132) : w0.heap.size ≤ gb132))
    have n7_ := qM ((by rw [hg]; exact Nat.ne_of_lt (blk_lt (g := gb113) (o := .cells #[.int .i64 0, .int .i64 0, .int .i64 0, .int .i64 0] 53 (0, 0)) BK113.out) : gb113 ≠ gb132))
    have n8_ := qM ((by rw [hg]; exact Nat.ne_of_gt (blk_lt (g := gb113) (o := .cells #[.int .i64 0, .int .i64 0, .int .i64 0, .int .i64 0] 53 (0, 0)) BK113.out) : gb132 ≠ gb113))
    have n9_ := qM ((by rw [hg]; exact Nat.ne_of_lt (IsS93.lt (show IsS93 w0 _ g s0_0 t125 from by repeat (first | (with_reducible first | exact HI0.out | apply IsS93.alloc | apply IsS93.drewN | apply IsS93.drew | apply IsS93.set_1 | refine IsS93.far ?_ NB0_113.out _) | exact HI0.out))) : g ≠ gb132))
    have n10_ := qM ((by rw [hg]; exact Nat.ne_of_gt (IsS93.lt (show IsS93 w0 _ g s0_0 t125 from by repeat (first | (with_reducible first | exact HI0.out | apply IsS93.alloc | apply IsS93.drewN | apply IsS93.drew | apply IsS93.set_1 | refine IsS93.far ?_ NB0_113.out _) | exact HI0.out))) : gb132 ≠ g))
    clear HI0 BK113 HK HB
    revert n0_ n1_ n2_ n3_ n4_ n5_ n6_ n7_ n8_ n9_ n10_
    intro HI0 BK113 HK HB BK132 GW132 GE132 NB113_132 NB132_113 NB0_132 NB132_0
    clear hb hbox hg
    refine hK.out _ _ trivial (fun hHeld => ?_)
    clear hK K
    refine norm_ (a' := ?_) ?_ ?_
    rotate_left
    ·show Act.put _ (some 3) _ = _
     simp only [Act.put, List.setIfInBounds_toArray, List.set_cons_zero, List.set_cons_succ, i64_w, i32_w]
     rfl
    exact norm_ (by first | (simp only [putAll, Act.put, List.setIfInBounds_toArray, List.set_cons_zero, List.set_cons_succ]; done) | (simp only [putAll, Act.put, List.setIfInBounds_toArray, List.set_cons_zero, List.set_cons_succ]; rfl)) (hJ1_4_7_11_18 (gb132) _ ⟨BK113.out, BK132.out, GW132.out, GE132.out, NB0_132.out, NB132_0.out, NB113_132.out, NB132_113.out, HI0.out, HK.out, HB.out⟩)
set_option maxHeartbeats 8000000 in
set_option maxRecDepth 100000 in
theorem spec_l31Out.j1_4_7_18 (k g : Nat) (s0_0 : List Int) (s0_1 : Int) (w0 w : World) (gb113 : Nat) (t114 t115 t116 t117 t121 t122 t124 t125 t129 t130 : Int) (y118 y126 : List Int) (K : Act → World → Prop) (post : Ending → World → Prop) (hC : spec_l31Out.CX k g s0_0 s0_1 w0 w gb113 t114 t115 t116 t117 t121 t122 t124 t125 t129 t130 y118 y126) (hJ1_4_5_7_18 : spec_l31Out.J1_4_5_7_18 k g s0_0 s0_1 w0 w gb113 t114 t115 t116 t117 t121 t122 t124 t125 t129 t130 y118 y126 K post) (hJ1_4_7_11_18 : spec_l31Out.J1_4_7_11_18 k g s0_0 s0_1 w0 w gb113 t114 t115 t116 t117 t121 t122 t124 t125 t129 t130 y118 y126 K post) : spec_l31Out.J1_4_7_18 k g s0_0 s0_1 w0 w gb113 t114 t115 t116 t117 t121 t122 t124 t125 t129 t130 y118 y126 K post := by
 obtain ⟨HW0, A2, A3, Ny118, A4, A7, Ny126, A8, GW113, GE113, NB0_113, NB113_0, c5b0, c6b0, c9b0, c10b0⟩ := hC
 have HT_ := qM spec_l31Out.tabO
 have HW_ := qM spec_l31Out.bits1
 have pi123 : (0 ≤ (t121 : Int)) = True := eq_true (of_decide_eq_true c5b0)
 have qi123 : (t121 < (y118.length : Int)) = True := eq_true (of_decide_eq_true c6b0)
 have pi131 : (0 ≤ (t129 : Int)) = True := eq_true (of_decide_eq_true c9b0)
 have qi131 : (t129 < (y126.length : Int)) = True := eq_true (of_decide_eq_true c10b0)
 unfold spec_l31Out.J1_4_5_7_18 spec_l31Out.FR spec_l31Out.OPS at hJ1_4_5_7_18
 unfold spec_l31Out.J1_4_7_11_18 spec_l31Out.FR spec_l31Out.OPS at hJ1_4_7_11_18
 unfold spec_l31Out.J1_4_7_18 spec_l31Out.FR spec_l31Out.OPS
 ··skip
   rintro gb132 w20 ⟨h0_, h1_, h2_, h3_, h4_, h5_, h6_, h7_, h8_, h9_, h10_⟩
   have n0_ : Aside0 (w20.heap[gb113]? = some (.cells #[.int .i64 0, .int .i64 0, .int .i64 0, .int .i64 0] 53 (0, 0))) := ⟨h0_⟩
   have n1_ : Aside0 (w20.heap[gb132]? = some (.cells #[.int .i64 0, .int .i64 0, .int .i64 0, .int .i64 0] 53 (0, 0))) := ⟨h1_⟩
   have n2_ : Aside0 (w.heap.size ≤ gb132) := ⟨h2_⟩
   have n3_ : Aside0 (w0.heap.size ≤ gb132) := ⟨h3_⟩
   have n4_ : Aside0 (g ≠ gb132) := ⟨h4_⟩
   have n5_ : Aside0 (gb132 ≠ g) := ⟨h5_⟩
   have n6_ : Aside0 (gb113 ≠ gb132) := ⟨h6_⟩
   have n7_ : Aside0 (gb132 ≠ gb113) := ⟨h7_⟩
   have n8_ : Aside0 (IsS93 w0 w20 g s0_0 t122) := ⟨h8_⟩
   have n9_ : Aside0 (KeepBut w w20 g none) := ⟨h9_⟩
   have n10_ : Aside0 (Below w0.heap.size w0 w20) := ⟨h10_⟩
   clear h0_ h1_ h2_ h3_ h4_ h5_ h6_ h7_ h8_ h9_ h10_
   revert n0_ n1_ n2_ n3_ n4_ n5_ n6_ n7_ n8_ n9_ n10_
   intro BK113 BK132 GW132 GE132 NB0_132 NB132_0 NB113_132 NB132_113 HI0 HK HB
   have hHeld := trivial
   refine norm_ (a' := ?_) ?_ ?_
   rotate_left
   ·simp only [putAll, Act.put, List.setIfInBounds_toArray, List.set_cons_zero, List.set_cons_succ]
    rfl
   refine two_ (i := 5) (j := 11) (Ni := some 9) (Nj := some 15) spec_l31Out.m58 spec_l31Out.m54 rfl rfl rfl rfl (two_of HT_.out (by kernel_rfl)) (by decide) (by decide) (fun K hK => ?_) (fun K hK => ?_)
   ·skip
    refine Kd.R_lit_step (Kd.int .i64) _ 3 ?hg (N := 9) ?hd (xs := ([0, 1, 2, 199, 200] : List Int)) (inner := [.int .i64 0, .int .i64 1, .int .i64 2, .int .i64 199, .int .i64 200]) (ok := fun _ => True) (okp := fun _ => True) ?hr ?hp (fun _ hk => hk) trivial (Below.refl _ _) (Nat.le_refl _) (by simp) ?_; (case hd => rfl); (case hg => rfl); (case hr => first | (go_simp; done) | (go_simp; rfl)); (case hp => exact (Reps.one (show Kd.M (Kd.int .i64) _ _ _ 0 [.int .i64 0] from rfl) (Reps.one (show Kd.M (Kd.int .i64) _ _ _ 1 [.int .i64 1] from rfl) (Reps.one (show Kd.M (Kd.int .i64) _ _ _ 2 [.int .i64 2] from rfl) (Reps.one (show Kd.M (Kd.int .i64) _ _ _ 199 [.int .i64 199] from rfl) (Reps.one (show Kd.M (Kd.int .i64) _ _ _ 200 [.int .i64 200] from rfl) (Reps.none _ _)))))))
    intro v119 w21 ho22 hb hg_ hnew_
    clear hg_ hnew_
    (first | rw [← Ny118.out] at ho22 | (simp only [Int.reduceToNat] at ho22; rw [← Ny118.out] at ho22))
    have n0_ := qM (Kd.R_lower ho22 (keep_size (w := w) (g := g) (row := none) HK.out))
    have n1_ := qM (IsS93.below HI0.out hb)
    have n2_ := qM (blk_below (g := gb113) (o := .cells #[.int .i64 0, .int .i64 0, .int .i64 0, .int .i64 0] 53 (0, 0)) BK113.out hb)
    have n3_ := qM (blk_below (g := gb132) (o := .cells #[.int .i64 0, .int .i64 0, .int .i64 0, .int .i64 0] 53 (0, 0)) BK132.out hb)
    have n4_ := qM (KeepBut.trans HK.out (KeepBut.of_below hb g none) (.inl rfl))
    have n5_ := qM (below_step HB.out hb)
    clear HI0 BK113 BK132 HK HB
    revert n0_ n1_ n2_ n3_ n4_ n5_
    intro HO120 HI0 BK113 BK132 HK HB
    clear hb ho22
    obtain ⟨Ao23, co23, eo23⟩ := Kd.R_slice HO120.out
    subst eo23
    obtain ⟨ado23, fo23, _⟩ := Kd.at_int (qR HO120.out).2.2 0 (by decide) (by rw [Ny118.out]; simp)
    cases fo23
    refine hK.out _ _ trivial (fun hHeld => ?_)
    clear hK K
    refine norm_ (a' := ?_) ?_ ?_
    rotate_left
    ·show Act.put _ (some 9) _ = _
     simp only [Act.put, List.setIfInBounds_toArray, List.set_cons_zero, List.set_cons_succ, i64_w, i32_w]
     rfl
    refine pure_ (i := 8) (N := some 12) (v := ?_) (a' := ?_) spec_l31Out.m48 rfl rfl (any_of HT_.out (by kernel_rfl)) (fun _ _ _ h => h) (Or.inl ⟨by rfl, ?_⟩) ?_ ?_
    rotate_left
    ·intro w'
     go_simp
     with_reducible rfl
    rotate_left
    ·simp only [Act.put, List.setIfInBounds_toArray, List.set_cons_zero, List.set_cons_succ, i64_w, i32_w]
     rfl
    exact norm_ (by first | (simp only [putAll, Act.put, List.setIfInBounds_toArray, List.set_cons_zero, List.set_cons_succ]; done) | (simp only [putAll, Act.put, List.setIfInBounds_toArray, List.set_cons_zero, List.set_cons_succ]; rfl)) (hJ1_4_5_7_18 (.slice (some ado23) y118.length co23, ado23, gb132) _ ⟨HO120.out, ⟨_, rfl⟩, BK113.out, BK132.out, GW132.out, GE132.out, NB0_132.out, NB132_0.out, NB113_132.out, NB132_113.out, HI0.out, HK.out, HB.out⟩)
   ·skip
    refine goes_ Try.func53 (by kernel_rfl) rfl #[.pointer (some ⟨g, 0, none⟩), .int .i64 16] (by rfl) rfl rfl (by (try simp only [List.map_toArray, List.map_cons, List.map_nil]); first | done | rfl | (simp only [List.length_drop, List.length_take]; rfl)) ?_
    with_reducible refine (spec_l30Rd_pick.calls k g s0_0 t122 16 t124 t125 w0 _ ?side1 ?side2 A7.out).mono ?_
    (case side1 => repeat (first | (with_reducible first | exact HI0.out | apply IsS93.alloc | apply IsS93.drewN | apply IsS93.drew | apply IsS93.set_1 | refine IsS93.far ?_ NB0_113.out _ | refine IsS93.far ?_ NB0_132.out _) | exact HI0.out))
    (case side2 => repeat (first | (with_reducible first | exact HB.out | apply yA | apply yN | apply yD | refine yS ?_ (IsS93.ge HI0.out) | refine yS ?_ GE113.out | refine yS ?_ GE132.out) | exact HB.out))
    rintro e w21 ⟨rfl, hi, hb, hk⟩
    refine ⟨_, rfl, ?_⟩
    have n0_ := qM (KeepBut.blk hk (g' := gb113) (o := .cells #[.int .i64 0, .int .i64 0, .int .i64 0, .int .i64 0] 53 (0, 0)) BK113.out NB113_0.out (by simp))
    have n1_ := qM (KeepBut.blk hk (g' := gb132) (o := .cells #[.int .i64 0, .int .i64 0, .int .i64 0, .int .i64 0] 53 (0, 0)) BK132.out NB132_0.out (by simp))
    have n2_ := qM (KeepBut.trans HK.out hk (.inl rfl))
    have n3_ := qM (hb)
    have n4_ := qM (hi)
    clear BK113 BK132 HK HB HI0
    revert n0_ n1_ n2_ n3_ n4_
    intro BK113 BK132 HK HB HI0
    (try clear hb)
    (try clear hb2)
    (try clear hk)
    (try clear hi)
    refine hK.out _ _ trivial (fun hHeld => ?_)
    clear hK K
    refine norm_ (a' := ?_) ?_ ?_
    rotate_left
    ·show Act.put _ (some 15) _ = _
     simp only [Act.put, List.setIfInBounds_toArray, List.set_cons_zero, List.set_cons_succ, i64_w, i32_w]
     rfl
    exact norm_ (by first | (simp only [putAll, Act.put, List.setIfInBounds_toArray, List.set_cons_zero, List.set_cons_succ]; done) | (simp only [putAll, Act.put, List.setIfInBounds_toArray, List.set_cons_zero, List.set_cons_succ]; rfl)) (hJ1_4_7_11_18 (gb132) _ ⟨BK113.out, BK132.out, GW132.out, GE132.out, NB0_132.out, NB132_0.out, NB113_132.out, NB132_113.out, HI0.out, HK.out, HB.out⟩)
set_option maxHeartbeats 8000000 in
set_option maxRecDepth 100000 in
theorem spec_l31Out.j1_4_5 (k g : Nat) (s0_0 : List Int) (s0_1 : Int) (w0 w : World) (gb113 : Nat) (t114 t115 t116 t117 t121 t122 t124 t125 t129 t130 : Int) (y118 y126 : List Int) (K : Act → World → Prop) (post : Ending → World → Prop) (hC : spec_l31Out.CX k g s0_0 s0_1 w0 w gb113 t114 t115 t116 t117 t121 t122 t124 t125 t129 t130 y118 y126) (hJ1_4_5_7 : spec_l31Out.J1_4_5_7 k g s0_0 s0_1 w0 w gb113 t114 t115 t116 t117 t121 t122 t124 t125 t129 t130 y118 y126 K post) (hJ1_4_5_18 : spec_l31Out.J1_4_5_18 k g s0_0 s0_1 w0 w gb113 t114 t115 t116 t117 t121 t122 t124 t125 t129 t130 y118 y126 K post) : spec_l31Out.J1_4_5 k g s0_0 s0_1 w0 w gb113 t114 t115 t116 t117 t121 t122 t124 t125 t129 t130 y118 y126 K post := by
 obtain ⟨HW0, A2, A3, Ny118, A4, A7, Ny126, A8, GW113, GE113, NB0_113, NB113_0, c5b0, c6b0, c9b0, c10b0⟩ := hC
 have HT_ := qM spec_l31Out.tabO
 have HW_ := qM spec_l31Out.bits1
 have pi123 : (0 ≤ (t121 : Int)) = True := eq_true (of_decide_eq_true c5b0)
 have qi123 : (t121 < (y118.length : Int)) = True := eq_true (of_decide_eq_true c6b0)
 have pi131 : (0 ≤ (t129 : Int)) = True := eq_true (of_decide_eq_true c9b0)
 have qi131 : (t129 < (y126.length : Int)) = True := eq_true (of_decide_eq_true c10b0)
 unfold spec_l31Out.J1_4_5_7 spec_l31Out.FR spec_l31Out.OPS at hJ1_4_5_7
 unfold spec_l31Out.J1_4_5_18 spec_l31Out.FR spec_l31Out.OPS at hJ1_4_5_18
 unfold spec_l31Out.J1_4_5 spec_l31Out.FR spec_l31Out.OPS
 ··skip
   rintro ⟨v119, adz_v119⟩ w21 ⟨h0_, h1_, h2_, h3_, h4_, h5_⟩
   have n0_ : Aside0 (Kd.R (Kd.int .i64) 3 w21 w.heap.size (fun _ => True) v119 y118) := ⟨h0_⟩
   have n1_ : Aside0 (∃ c_, (v119 : Value) = .slice (some adz_v119) y118.length c_) := ⟨h1_⟩
   have n2_ : Aside0 (w21.heap[gb113]? = some (.cells #[.int .i64 0, .int .i64 0, .int .i64 0, .int .i64 0] 53 (0, 0))) := ⟨h2_⟩
   have n3_ : Aside0 (IsS93 w0 w21 g s0_0 t117) := ⟨h3_⟩
   have n4_ : Aside0 (KeepBut w w21 g none) := ⟨h4_⟩
   have n5_ : Aside0 (Below w0.heap.size w0 w21) := ⟨h5_⟩
   clear h0_ h1_ h2_ h3_ h4_ h5_
   revert n0_ n1_ n2_ n3_ n4_ n5_
   intro HO120 HA_HO120 BK113 HI0 HK HB
   have hHeld := trivial
   obtain ⟨co22, eo22⟩ := HA_HO120.out
   clear HA_HO120
   subst eo22
   refine norm_ (a' := ?_) ?_ ?_
   rotate_left
   ·simp only [putAll, Act.put, List.setIfInBounds_toArray, List.set_cons_zero, List.set_cons_succ]
    rfl
   refine two_ (i := 7) (j := 18) (Ni := some 11) (Nj := some 3) spec_l31Out.m63 spec_l31Out.m57 rfl rfl rfl rfl (two_of HT_.out (by kernel_rfl)) (by decide) (by decide) (fun K hK => ?_) (fun K hK => ?_)
   ·skip
    refine goes_ Try.func53 (by kernel_rfl) rfl #[.pointer (some ⟨g, 0, none⟩), .int .i64 5] (by rfl) rfl rfl (by (try simp only [List.map_toArray, List.map_cons, List.map_nil]); first | done | rfl | (simp only [List.length_drop, List.length_take]; rfl)) ?_
    with_reducible refine (spec_l30Rd_pick.calls k g s0_0 t117 5 t121 t122 w0 _ ?side1 ?side2 A4.out).mono ?_
    (case side1 => repeat (first | (with_reducible first | exact HI0.out | apply IsS93.alloc | apply IsS93.drewN | apply IsS93.drew | apply IsS93.set_1 | refine IsS93.far ?_ NB0_113.out _) | exact HI0.out))
    (case side2 => repeat (first | (with_reducible first | exact HB.out | apply yA | apply yN | apply yD | refine yS ?_ (IsS93.ge HI0.out) | refine yS ?_ GE113.out) | exact HB.out))
    rintro e w23 ⟨rfl, hi, hb, hk⟩
    refine ⟨_, rfl, ?_⟩
    have n0_ := qM (KeepBut.blk hk (g' := gb113) (o := .cells #[.int .i64 0, .int .i64 0, .int .i64 0, .int .i64 0] 53 (0, 0)) BK113.out NB113_0.out (by simp))
    have n1_ := qM (Kd.R_mono (Kd.R_keep (IsS93.apart (show IsS93 w0 _ g s0_0 t117 from by repeat (first | (with_reducible first | exact HI0.out | apply IsS93.alloc | apply IsS93.drewN | apply IsS93.drew | apply IsS93.set_1 | refine IsS93.far ?_ NB0_113.out _) | exact HI0.out)) HO120.out (by decide)) hk (fun _ h => h.2)) (fun _ h => h.1))
    have n2_ := qM (KeepBut.trans HK.out hk (.inl rfl))
    have n3_ := qM (hb)
    have n4_ := qM (hi)
    clear BK113 HO120 HK HB HI0
    revert n0_ n1_ n2_ n3_ n4_
    intro BK113 HO120 HK HB HI0
    (try clear hb)
    (try clear hb2)
    (try clear hk)
    (try clear hi)
    refine hK.out _ _ trivial (fun hHeld => ?_)
    clear hK K
    refine norm_ (a' := ?_) ?_ ?_
    rotate_left
    ·show Act.put _ (some 11) _ = _
     simp only [Act.put, List.setIfInBounds_toArray, List.set_cons_zero, List.set_cons_succ, i64_w, i32_w]
     rfl
    refine pure_ (i := 8) (N := some 12) (v := ?_) (a' := ?_) spec_l31Out.m56 rfl rfl (any_of HT_.out (by kernel_rfl)) (fun _ _ _ h => h) (Or.inl ⟨by rfl, ?_⟩) ?_ ?_
    rotate_left
    ·intro w'
     go_simp
     with_reducible rfl
    rotate_left
    ·simp only [Act.put, List.setIfInBounds_toArray, List.set_cons_zero, List.set_cons_succ, i64_w, i32_w]
     rfl
    exact norm_ (by first | (simp only [putAll, Act.put, List.setIfInBounds_toArray, List.set_cons_zero, List.set_cons_succ]; done) | (simp only [putAll, Act.put, List.setIfInBounds_toArray, List.set_cons_zero, List.set_cons_succ]; rfl)) (hJ1_4_5_7 (.slice (some adz_v119) y118.length co22, adz_v119) _ ⟨HO120.out, ⟨_, rfl⟩, BK113.out, HI0.out, HK.out, HB.out⟩)
   ·skip
    refine box_step ?hg (N := 3) ?hd (cs := #[.int .i64 0, .int .i64 0, .int .i64 0, .int .i64 0]) (t := 53) ?hr ?_; (case hd => rfl); (case hg => rfl); (case hr => first | (go_simp; done) | (go_simp; rfl))
    intro gb132 hg w23 hbox hb
    have n0_ := qM (Kd.R_below HO120.out hb)
    have n1_ := qM (IsS93.below HI0.out hb)
    have n2_ := qM (blk_below (g := gb113) (o := .cells #[.int .i64 0, .int .i64 0, .int .i64 0, .int .i64 0] 53 (0, 0)) BK113.out hb)
    have n3_ := qM (KeepBut.trans HK.out (KeepBut.of_below hb g none) (.inl rfl))
    have n4_ := qM (below_step HB.out hb)
    have n5_ := qM (hbox)
    have n6_ := qM ((by rw [hg]; exact (keep_size (w := w) (g := g) (row := none) HK.out) : w.heap.size ≤ gb132))
    have n7_ := qM ((Nat.le_trans HW0.out (by rw [hg]; exact (keep_size (w := w) (g := g) (row := none) HK.out) : w.heap.size ≤ gb132) : w0.heap.size ≤ gb132))
    have n8_ := qM ((by rw [hg]; exact Nat.ne_of_lt (blk_lt (g := gb113) (o := .cells #[.int .i64 0, .int .i64 0, .int .i64 0, .int .i64 0] 53 (0, 0)) BK113.out) : gb113 ≠ gb132))
    have n9_ := qM ((by rw [hg]; exact Nat.ne_of_gt (blk_lt (g := gb113) (o := .cells #[.int .i64 0, .int .i64 0, .int .i64 0, .int .i64 0] 53 (0, 0)) BK113.out) : gb132 ≠ gb113))
    have n10_ := qM ((by rw [hg]; exact Nat.ne_of_lt (IsS93.lt (show IsS93 w0 _ g s0_0 t117 from by repeat (first | (with_reducible first | exact HI0.out | apply IsS93.alloc | apply IsS93.drewN | apply IsS93.drew | apply IsS93.set_1 | refine IsS93.far ?_ NB0_113.out _) | exact HI0.out))) : g ≠ gb132))
    have n11_ := qM ((by rw [hg]; exact Nat.ne_of_gt (IsS93.lt (show IsS93 w0 _ g s0_0 t117 from by repeat (first | (with_reducible first | exact HI0.out | apply IsS93.alloc | apply IsS93.drewN | apply IsS93.drew | apply IsS93.set_1 | refine IsS93.far ?_ NB0_113.out _) | exact HI0.out))) : gb132 ≠ g))
    clear HO120 HI0 BK113 HK HB
    revert n0_ n1_ n2_ n3_ n4_ n5_ n6_ n7_ n8_ n9_ n10_ n11_
    intro HO120 HI0 BK113 HK HB BK132 GW132 GE132 NB113_132 NB132_113 NB0_132 NB132_0
    clear hb hbox hg
    refine hK.out _ _ trivial (fun hHeld => ?_)
    clear hK K
    refine norm_ (a' := ?_) ?_ ?_
    rotate_left
    ·show Act.put _ (some 3) _ = _
     simp only [Act.put, List.setIfInBounds_toArray, List.set_cons_zero, List.set_cons_succ, i64_w, i32_w]
     rfl
    exact norm_ (by first | (simp only [putAll, Act.put, List.setIfInBounds_toArray, List.set_cons_zero, List.set_cons_succ]; done) | (simp only [putAll, Act.put, List.setIfInBounds_toArray, List.set_cons_zero, List.set_cons_succ]; rfl)) (hJ1_4_5_18 (.slice (some adz_v119) y118.length co22, adz_v119, gb132) _ ⟨HO120.out, ⟨_, rfl⟩, BK113.out, BK132.out, GW132.out, GE132.out, NB0_132.out, NB132_0.out, NB113_132.out, NB132_113.out, HI0.out, HK.out, HB.out⟩)
set_option maxHeartbeats 8000000 in
set_option maxRecDepth 100000 in
theorem spec_l31Out.j1_4_7 (k g : Nat) (s0_0 : List Int) (s0_1 : Int) (w0 w : World) (gb113 : Nat) (t114 t115 t116 t117 t121 t122 t124 t125 t129 t130 : Int) (y118 y126 : List Int) (K : Act → World → Prop) (post : Ending → World → Prop) (hC : spec_l31Out.CX k g s0_0 s0_1 w0 w gb113 t114 t115 t116 t117 t121 t122 t124 t125 t129 t130 y118 y126) (hJ1_4_5_7 : spec_l31Out.J1_4_5_7 k g s0_0 s0_1 w0 w gb113 t114 t115 t116 t117 t121 t122 t124 t125 t129 t130 y118 y126 K post) (hJ1_4_7_11 : spec_l31Out.J1_4_7_11 k g s0_0 s0_1 w0 w gb113 t114 t115 t116 t117 t121 t122 t124 t125 t129 t130 y118 y126 K post) (hJ1_4_7_18 : spec_l31Out.J1_4_7_18 k g s0_0 s0_1 w0 w gb113 t114 t115 t116 t117 t121 t122 t124 t125 t129 t130 y118 y126 K post) : spec_l31Out.J1_4_7 k g s0_0 s0_1 w0 w gb113 t114 t115 t116 t117 t121 t122 t124 t125 t129 t130 y118 y126 K post := by
 obtain ⟨HW0, A2, A3, Ny118, A4, A7, Ny126, A8, GW113, GE113, NB0_113, NB113_0, c5b0, c6b0, c9b0, c10b0⟩ := hC
 have HT_ := qM spec_l31Out.tabO
 have HW_ := qM spec_l31Out.bits1
 have pi123 : (0 ≤ (t121 : Int)) = True := eq_true (of_decide_eq_true c5b0)
 have qi123 : (t121 < (y118.length : Int)) = True := eq_true (of_decide_eq_true c6b0)
 have pi131 : (0 ≤ (t129 : Int)) = True := eq_true (of_decide_eq_true c9b0)
 have qi131 : (t129 < (y126.length : Int)) = True := eq_true (of_decide_eq_true c10b0)
 unfold spec_l31Out.J1_4_5_7 spec_l31Out.FR spec_l31Out.OPS at hJ1_4_5_7
 unfold spec_l31Out.J1_4_7_11 spec_l31Out.FR spec_l31Out.OPS at hJ1_4_7_11
 unfold spec_l31Out.J1_4_7_18 spec_l31Out.FR spec_l31Out.OPS at hJ1_4_7_18
 unfold spec_l31Out.J1_4_7 spec_l31Out.FR spec_l31Out.OPS
 ··skip
   rintro _ w19 ⟨h0_, h1_, h2_, h3_⟩
   have n0_ : Aside0 (w19.heap[gb113]? = some (.cells #[.int .i64 0, .int .i64 0, .int .i64 0, .int .i64 0] 53 (0, 0))) := ⟨h0_⟩
   have n1_ : Aside0 (IsS93 w0 w19 g s0_0 t122) := ⟨h1_⟩
   have n2_ : Aside0 (KeepBut w w19 g none) := ⟨h2_⟩
   have n3_ : Aside0 (Below w0.heap.size w0 w19) := ⟨h3_⟩
   clear h0_ h1_ h2_ h3_
   revert n0_ n1_ n2_ n3_
   intro BK113 HI0 HK HB
   have hHeld := trivial
   refine norm_ (a' := ?_) ?_ ?_
   rotate_left
   ·simp only [putAll, Act.put, List.setIfInBounds_toArray, List.set_cons_zero, List.set_cons_succ]
    rfl
   refine three_ (i := 5) (j := 11) (k := 18) (Ni := some 9) (Nj := some 15) (Nk := some 3) spec_l31Out.m63 spec_l31Out.m59 spec_l31Out.m61 rfl rfl rfl rfl rfl rfl (three_of HT_.out (by kernel_rfl)) (by decide) (by decide) (by decide) (fun K hK => ?_) (fun K hK => ?_) (fun K hK => ?_)
   ·skip
    refine Kd.R_lit_step (Kd.int .i64) _ 3 ?hg (N := 9) ?hd (xs := ([0, 1, 2, 199, 200] : List Int)) (inner := [.int .i64 0, .int .i64 1, .int .i64 2, .int .i64 199, .int .i64 200]) (ok := fun _ => True) (okp := fun _ => True) ?hr ?hp (fun _ hk => hk) trivial (Below.refl _ _) (Nat.le_refl _) (by simp) ?_; (case hd => rfl); (case hg => rfl); (case hr => first | (go_simp; done) | (go_simp; rfl)); (case hp => exact (Reps.one (show Kd.M (Kd.int .i64) _ _ _ 0 [.int .i64 0] from rfl) (Reps.one (show Kd.M (Kd.int .i64) _ _ _ 1 [.int .i64 1] from rfl) (Reps.one (show Kd.M (Kd.int .i64) _ _ _ 2 [.int .i64 2] from rfl) (Reps.one (show Kd.M (Kd.int .i64) _ _ _ 199 [.int .i64 199] from rfl) (Reps.one (show Kd.M (Kd.int .i64) _ _ _ 200 [.int .i64 200] from rfl) (Reps.none _ _)))))))
    intro v119 w20 ho21 hb hg_ hnew_
    clear hg_ hnew_
    (first | rw [← Ny118.out] at ho21 | (simp only [Int.reduceToNat] at ho21; rw [← Ny118.out] at ho21))
    have n0_ := qM (Kd.R_lower ho21 (keep_size (w := w) (g := g) (row := none) HK.out))
    have n1_ := qM (IsS93.below HI0.out hb)
    have n2_ := qM (blk_below (g := gb113) (o := .cells #[.int .i64 0, .int .i64 0, .int .i64 0, .int .i64 0] 53 (0, 0)) BK113.out hb)
    have n3_ := qM (KeepBut.trans HK.out (KeepBut.of_below hb g none) (.inl rfl))
    have n4_ := qM (below_step HB.out hb)
    clear HI0 BK113 HK HB
    revert n0_ n1_ n2_ n3_ n4_
    intro HO120 HI0 BK113 HK HB
    clear hb ho21
    obtain ⟨Ao22, co22, eo22⟩ := Kd.R_slice HO120.out
    subst eo22
    obtain ⟨ado22, fo22, _⟩ := Kd.at_int (qR HO120.out).2.2 0 (by decide) (by rw [Ny118.out]; simp)
    cases fo22
    refine hK.out _ _ trivial (fun hHeld => ?_)
    clear hK K
    refine norm_ (a' := ?_) ?_ ?_
    rotate_left
    ·show Act.put _ (some 9) _ = _
     simp only [Act.put, List.setIfInBounds_toArray, List.set_cons_zero, List.set_cons_succ, i64_w, i32_w]
     rfl
    refine pure_ (i := 8) (N := some 12) (v := ?_) (a' := ?_) spec_l31Out.m56 rfl rfl (any_of HT_.out (by kernel_rfl)) (fun _ _ _ h => h) (Or.inl ⟨by rfl, ?_⟩) ?_ ?_
    rotate_left
    ·intro w'
     go_simp
     with_reducible rfl
    rotate_left
    ·simp only [Act.put, List.setIfInBounds_toArray, List.set_cons_zero, List.set_cons_succ, i64_w, i32_w]
     rfl
    exact norm_ (by first | (simp only [putAll, Act.put, List.setIfInBounds_toArray, List.set_cons_zero, List.set_cons_succ]; done) | (simp only [putAll, Act.put, List.setIfInBounds_toArray, List.set_cons_zero, List.set_cons_succ]; rfl)) (hJ1_4_5_7 (.slice (some ado22) y118.length co22, ado22) _ ⟨HO120.out, ⟨_, rfl⟩, BK113.out, HI0.out, HK.out, HB.out⟩)
   ·skip
    refine goes_ Try.func53 (by kernel_rfl) rfl #[.pointer (some ⟨g, 0, none⟩), .int .i64 16] (by rfl) rfl rfl (by (try simp only [List.map_toArray, List.map_cons, List.map_nil]); first | done | rfl | (simp only [List.length_drop, List.length_take]; rfl)) ?_
    with_reducible refine (spec_l30Rd_pick.calls k g s0_0 t122 16 t124 t125 w0 _ ?side1 ?side2 A7.out).mono ?_
    (case side1 => repeat (first | (with_reducible first | exact HI0.out | apply IsS93.alloc | apply IsS93.drewN | apply IsS93.drew | apply IsS93.set_1 | refine IsS93.far ?_ NB0_113.out _) | exact HI0.out))
    (case side2 => repeat (first | (with_reducible first | exact HB.out | apply yA | apply yN | apply yD | refine yS ?_ (IsS93.ge HI0.out) | refine yS ?_ GE113.out) | exact HB.out))
    rintro e w20 ⟨rfl, hi, hb, hk⟩
    refine ⟨_, rfl, ?_⟩
    have n0_ := qM (KeepBut.blk hk (g' := gb113) (o := .cells #[.int .i64 0, .int .i64 0, .int .i64 0, .int .i64 0] 53 (0, 0)) BK113.out NB113_0.out (by simp))
    have n1_ := qM (KeepBut.trans HK.out hk (.inl rfl))
    have n2_ := qM (hb)
    have n3_ := qM (hi)
    clear BK113 HK HB HI0
    revert n0_ n1_ n2_ n3_
    intro BK113 HK HB HI0
    (try clear hb)
    (try clear hb2)
    (try clear hk)
    (try clear hi)
    refine hK.out _ _ trivial (fun hHeld => ?_)
    clear hK K
    refine norm_ (a' := ?_) ?_ ?_
    rotate_left
    ·show Act.put _ (some 15) _ = _
     simp only [Act.put, List.setIfInBounds_toArray, List.set_cons_zero, List.set_cons_succ, i64_w, i32_w]
     rfl
    exact norm_ (by first | (simp only [putAll, Act.put, List.setIfInBounds_toArray, List.set_cons_zero, List.set_cons_succ]; done) | (simp only [putAll, Act.put, List.setIfInBounds_toArray, List.set_cons_zero, List.set_cons_succ]; rfl)) (hJ1_4_7_11 () _ ⟨BK113.out, HI0.out, HK.out, HB.out⟩)
   ·skip
    refine box_step ?hg (N := 3) ?hd (cs := #[.int .i64 0, .int .i64 0, .int .i64 0, .int .i64 0]) (t := 53) ?hr ?_; (case hd => rfl); (case hg => rfl); (case hr => first | (go_simp; done) | (go_simp; rfl))
    intro gb132 hg w20 hbox hb
    have n0_ := qM (IsS93.below HI0.out hb)
    have n1_ := qM (blk_below (g := gb113) (o := .cells #[.int .i64 0, .int .i64 0, .int .i64 0, .int .i64 0] 53 (0, 0)) BK113.out hb)
    have n2_ := qM (KeepBut.trans HK.out (KeepBut.of_below hb g none) (.inl rfl))
    have n3_ := qM (below_step HB.out hb)
    have n4_ := qM (hbox)
    have n5_ := qM ((by rw [hg]; exact (keep_size (w := w) (g := g) (row := none) HK.out) : w.heap.size ≤ gb132))
    have n6_ := qM ((Nat.le_trans HW0.out (by rw [hg]; exact (keep_size (w := w) (g := g) (row := none) HK.out) : w.heap.size ≤ gb132) : w0.heap.size ≤ gb132))
    have n7_ := qM ((by rw [hg]; exact Nat.ne_of_lt (blk_lt (g := gb113) (o := .cells #[.int .i64 0, .int .i64 0, .int .i64 0, .int .i64 0] 53 (0, 0)) BK113.out) : gb113 ≠ gb132))
    have n8_ := qM ((by rw [hg]; exact Nat.ne_of_gt (blk_lt (g := gb113) (o := .cells #[.int .i64 0, .int .i64 0, .int .i64 0, .int .i64 0] 53 (0, 0)) BK113.out) : gb132 ≠ gb113))
    have n9_ := qM ((by rw [hg]; exact Nat.ne_of_lt (IsS93.lt (show IsS93 w0 _ g s0_0 t122 from by repeat (first | (with_reducible first | exact HI0.out | apply IsS93.alloc | apply IsS93.drewN | apply IsS93.drew | apply IsS93.set_1 | refine IsS93.far ?_ NB0_113.out _) | exact HI0.out))) : g ≠ gb132))
    have n10_ := qM ((by rw [hg]; exact Nat.ne_of_gt (IsS93.lt (show IsS93 w0 _ g s0_0 t122 from by repeat (first | (with_reducible first | exact HI0.out | apply IsS93.alloc | apply IsS93.drewN | apply IsS93.drew | apply IsS93.set_1 | refine IsS93.far ?_ NB0_113.out _) | exact HI0.out))) : gb132 ≠ g))
    clear HI0 BK113 HK HB
    revert n0_ n1_ n2_ n3_ n4_ n5_ n6_ n7_ n8_ n9_ n10_
    intro HI0 BK113 HK HB BK132 GW132 GE132 NB113_132 NB132_113 NB0_132 NB132_0
    clear hb hbox hg
    refine hK.out _ _ trivial (fun hHeld => ?_)
    clear hK K
    refine norm_ (a' := ?_) ?_ ?_
    rotate_left
    ·show Act.put _ (some 3) _ = _
     simp only [Act.put, List.setIfInBounds_toArray, List.set_cons_zero, List.set_cons_succ, i64_w, i32_w]
     rfl
    exact norm_ (by first | (simp only [putAll, Act.put, List.setIfInBounds_toArray, List.set_cons_zero, List.set_cons_succ]; done) | (simp only [putAll, Act.put, List.setIfInBounds_toArray, List.set_cons_zero, List.set_cons_succ]; rfl)) (hJ1_4_7_18 (gb132) _ ⟨BK113.out, BK132.out, GW132.out, GE132.out, NB0_132.out, NB132_0.out, NB113_132.out, NB132_113.out, HI0.out, HK.out, HB.out⟩)
set_option maxHeartbeats 8000000 in
set_option maxRecDepth 100000 in
theorem spec_l31Out.j1_4_18 (k g : Nat) (s0_0 : List Int) (s0_1 : Int) (w0 w : World) (gb113 : Nat) (t114 t115 t116 t117 t121 t122 t124 t125 t129 t130 : Int) (y118 y126 : List Int) (K : Act → World → Prop) (post : Ending → World → Prop) (hC : spec_l31Out.CX k g s0_0 s0_1 w0 w gb113 t114 t115 t116 t117 t121 t122 t124 t125 t129 t130 y118 y126) (hJ1_4_5_18 : spec_l31Out.J1_4_5_18 k g s0_0 s0_1 w0 w gb113 t114 t115 t116 t117 t121 t122 t124 t125 t129 t130 y118 y126 K post) (hJ1_4_7_18 : spec_l31Out.J1_4_7_18 k g s0_0 s0_1 w0 w gb113 t114 t115 t116 t117 t121 t122 t124 t125 t129 t130 y118 y126 K post) : spec_l31Out.J1_4_18 k g s0_0 s0_1 w0 w gb113 t114 t115 t116 t117 t121 t122 t124 t125 t129 t130 y118 y126 K post := by
 obtain ⟨HW0, A2, A3, Ny118, A4, A7, Ny126, A8, GW113, GE113, NB0_113, NB113_0, c5b0, c6b0, c9b0, c10b0⟩ := hC
 have HT_ := qM spec_l31Out.tabO
 have HW_ := qM spec_l31Out.bits1
 have pi123 : (0 ≤ (t121 : Int)) = True := eq_true (of_decide_eq_true c5b0)
 have qi123 : (t121 < (y118.length : Int)) = True := eq_true (of_decide_eq_true c6b0)
 have pi131 : (0 ≤ (t129 : Int)) = True := eq_true (of_decide_eq_true c9b0)
 have qi131 : (t129 < (y126.length : Int)) = True := eq_true (of_decide_eq_true c10b0)
 unfold spec_l31Out.J1_4_5_18 spec_l31Out.FR spec_l31Out.OPS at hJ1_4_5_18
 unfold spec_l31Out.J1_4_7_18 spec_l31Out.FR spec_l31Out.OPS at hJ1_4_7_18
 unfold spec_l31Out.J1_4_18 spec_l31Out.FR spec_l31Out.OPS
 ··skip
   rintro gb132 w19 ⟨h0_, h1_, h2_, h3_, h4_, h5_, h6_, h7_, h8_, h9_, h10_⟩
   have n0_ : Aside0 (w19.heap[gb113]? = some (.cells #[.int .i64 0, .int .i64 0, .int .i64 0, .int .i64 0] 53 (0, 0))) := ⟨h0_⟩
   have n1_ : Aside0 (w19.heap[gb132]? = some (.cells #[.int .i64 0, .int .i64 0, .int .i64 0, .int .i64 0] 53 (0, 0))) := ⟨h1_⟩
   have n2_ : Aside0 (w.heap.size ≤ gb132) := ⟨h2_⟩
   have n3_ : Aside0 (w0.heap.size ≤ gb132) := ⟨h3_⟩
   have n4_ : Aside0 (g ≠ gb132) := ⟨h4_⟩
   have n5_ : Aside0 (gb132 ≠ g) := ⟨h5_⟩
   have n6_ : Aside0 (gb113 ≠ gb132) := ⟨h6_⟩
   have n7_ : Aside0 (gb132 ≠ gb113) := ⟨h7_⟩
   have n8_ : Aside0 (IsS93 w0 w19 g s0_0 t117) := ⟨h8_⟩
   have n9_ : Aside0 (KeepBut w w19 g none) := ⟨h9_⟩
   have n10_ : Aside0 (Below w0.heap.size w0 w19) := ⟨h10_⟩
   clear h0_ h1_ h2_ h3_ h4_ h5_ h6_ h7_ h8_ h9_ h10_
   revert n0_ n1_ n2_ n3_ n4_ n5_ n6_ n7_ n8_ n9_ n10_
   intro BK113 BK132 GW132 GE132 NB0_132 NB132_0 NB113_132 NB132_113 HI0 HK HB
   have hHeld := trivial
   refine norm_ (a' := ?_) ?_ ?_
   rotate_left
   ·simp only [putAll, Act.put, List.setIfInBounds_toArray, List.set_cons_zero, List.set_cons_succ]
    rfl
   refine two_ (i := 5) (j := 7) (Ni := some 9) (Nj := some 11) spec_l31Out.m57 spec_l31Out.m61 rfl rfl rfl rfl (two_of HT_.out (by kernel_rfl)) (by decide) (by decide) (fun K hK => ?_) (fun K hK => ?_)
   ·skip
    refine Kd.R_lit_step (Kd.int .i64) _ 3 ?hg (N := 9) ?hd (xs := ([0, 1, 2, 199, 200] : List Int)) (inner := [.int .i64 0, .int .i64 1, .int .i64 2, .int .i64 199, .int .i64 200]) (ok := fun _ => True) (okp := fun _ => True) ?hr ?hp (fun _ hk => hk) trivial (Below.refl _ _) (Nat.le_refl _) (by simp) ?_; (case hd => rfl); (case hg => rfl); (case hr => first | (go_simp; done) | (go_simp; rfl)); (case hp => exact (Reps.one (show Kd.M (Kd.int .i64) _ _ _ 0 [.int .i64 0] from rfl) (Reps.one (show Kd.M (Kd.int .i64) _ _ _ 1 [.int .i64 1] from rfl) (Reps.one (show Kd.M (Kd.int .i64) _ _ _ 2 [.int .i64 2] from rfl) (Reps.one (show Kd.M (Kd.int .i64) _ _ _ 199 [.int .i64 199] from rfl) (Reps.one (show Kd.M (Kd.int .i64) _ _ _ 200 [.int .i64 200] from rfl) (Reps.none _ _)))))))
    intro v119 w20 ho21 hb hg_ hnew_
    clear hg_ hnew_
    (first | rw [← Ny118.out] at ho21 | (simp only [Int.reduceToNat] at ho21; rw [← Ny118.out] at ho21))
    have n0_ := qM (Kd.R_lower ho21 (keep_size (w := w) (g := g) (row := none) HK.out))
    have n1_ := qM (IsS93.below HI0.out hb)
    have n2_ := qM (blk_below (g := gb113) (o := .cells #[.int .i64 0, .int .i64 0, .int .i64 0, .int .i64 0] 53 (0, 0)) BK113.out hb)
    have n3_ := qM (blk_below (g := gb132) (o := .cells #[.int .i64 0, .int .i64 0, .int .i64 0, .int .i64 0] 53 (0, 0)) BK132.out hb)
    have n4_ := qM (KeepBut.trans HK.out (KeepBut.of_below hb g none) (.inl rfl))
    have n5_ := qM (below_step HB.out hb)
    clear HI0 BK113 BK132 HK HB
    revert n0_ n1_ n2_ n3_ n4_ n5_
    intro HO120 HI0 BK113 BK132 HK HB
    clear hb ho21
    obtain ⟨Ao22, co22, eo22⟩ := Kd.R_slice HO120.out
    subst eo22
    obtain ⟨ado22, fo22, _⟩ := Kd.at_int (qR HO120.out).2.2 0 (by decide) (by rw [Ny118.out]; simp)
    cases fo22
    refine hK.out _ _ trivial (fun hHeld => ?_)
    clear hK K
    refine norm_ (a' := ?_) ?_ ?_
    rotate_left
    ·show Act.put _ (some 9) _ = _
     simp only [Act.put, List.setIfInBounds_toArray, List.set_cons_zero, List.set_cons_succ, i64_w, i32_w]
     rfl
    exact norm_ (by first | (simp only [putAll, Act.put, List.setIfInBounds_toArray, List.set_cons_zero, List.set_cons_succ]; done) | (simp only [putAll, Act.put, List.setIfInBounds_toArray, List.set_cons_zero, List.set_cons_succ]; rfl)) (hJ1_4_5_18 (.slice (some ado22) y118.length co22, ado22, gb132) _ ⟨HO120.out, ⟨_, rfl⟩, BK113.out, BK132.out, GW132.out, GE132.out, NB0_132.out, NB132_0.out, NB113_132.out, NB132_113.out, HI0.out, HK.out, HB.out⟩)
   ·skip
    refine goes_ Try.func53 (by kernel_rfl) rfl #[.pointer (some ⟨g, 0, none⟩), .int .i64 5] (by rfl) rfl rfl (by (try simp only [List.map_toArray, List.map_cons, List.map_nil]); first | done | rfl | (simp only [List.length_drop, List.length_take]; rfl)) ?_
    with_reducible refine (spec_l30Rd_pick.calls k g s0_0 t117 5 t121 t122 w0 _ ?side1 ?side2 A4.out).mono ?_
    (case side1 => repeat (first | (with_reducible first | exact HI0.out | apply IsS93.alloc | apply IsS93.drewN | apply IsS93.drew | apply IsS93.set_1 | refine IsS93.far ?_ NB0_113.out _ | refine IsS93.far ?_ NB0_132.out _) | exact HI0.out))
    (case side2 => repeat (first | (with_reducible first | exact HB.out | apply yA | apply yN | apply yD | refine yS ?_ (IsS93.ge HI0.out) | refine yS ?_ GE113.out | refine yS ?_ GE132.out) | exact HB.out))
    rintro e w20 ⟨rfl, hi, hb, hk⟩
    refine ⟨_, rfl, ?_⟩
    have n0_ := qM (KeepBut.blk hk (g' := gb113) (o := .cells #[.int .i64 0, .int .i64 0, .int .i64 0, .int .i64 0] 53 (0, 0)) BK113.out NB113_0.out (by simp))
    have n1_ := qM (KeepBut.blk hk (g' := gb132) (o := .cells #[.int .i64 0, .int .i64 0, .int .i64 0, .int .i64 0] 53 (0, 0)) BK132.out NB132_0.out (by simp))
    have n2_ := qM (KeepBut.trans HK.out hk (.inl rfl))
    have n3_ := qM (hb)
    have n4_ := qM (hi)
    clear BK113 BK132 HK HB HI0
    revert n0_ n1_ n2_ n3_ n4_
    intro BK113 BK132 HK HB HI0
    (try clear hb)
    (try clear hb2)
    (try clear hk)
    (try clear hi)
    refine hK.out _ _ trivial (fun hHeld => ?_)
    clear hK K
    refine norm_ (a' := ?_) ?_ ?_
    rotate_left
    ·show Act.put _ (some 11) _ = _
     simp only [Act.put, List.setIfInBounds_toArray, List.set_cons_zero, List.set_cons_succ, i64_w, i32_w]
     rfl
    exact norm_ (by first | (simp only [putAll, Act.put, List.setIfInBounds_toArray, List.set_cons_zero, List.set_cons_succ]; done) | (simp only [putAll, Act.put, List.setIfInBounds_toArray, List.set_cons_zero, List.set_cons_succ]; rfl)) (hJ1_4_7_18 (gb132) _ ⟨BK113.out, BK132.out, GW132.out, GE132.out, NB0_132.out, NB132_0.out, NB113_132.out, NB132_113.out, HI0.out, HK.out, HB.out⟩)
set_option maxHeartbeats 8000000 in
set_option maxRecDepth 100000 in
theorem spec_l31Out.j1_5_18 (k g : Nat) (s0_0 : List Int) (s0_1 : Int) (w0 w : World) (gb113 : Nat) (t114 t115 t116 t117 t121 t122 t124 t125 t129 t130 : Int) (y118 y126 : List Int) (K : Act → World → Prop) (post : Ending → World → Prop) (hC : spec_l31Out.CX k g s0_0 s0_1 w0 w gb113 t114 t115 t116 t117 t121 t122 t124 t125 t129 t130 y118 y126) (hJ1_4_5_18 : spec_l31Out.J1_4_5_18 k g s0_0 s0_1 w0 w gb113 t114 t115 t116 t117 t121 t122 t124 t125 t129 t130 y118 y126 K post) : spec_l31Out.J1_5_18 k g s0_0 s0_1 w0 w gb113 t114 t115 t116 t117 t121 t122 t124 t125 t129 t130 y118 y126 K post := by
 obtain ⟨HW0, A2, A3, Ny118, A4, A7, Ny126, A8, GW113, GE113, NB0_113, NB113_0, c5b0, c6b0, c9b0, c10b0⟩ := hC
 have HT_ := qM spec_l31Out.tabO
 have HW_ := qM spec_l31Out.bits1
 have pi123 : (0 ≤ (t121 : Int)) = True := eq_true (of_decide_eq_true c5b0)
 have qi123 : (t121 < (y118.length : Int)) = True := eq_true (of_decide_eq_true c6b0)
 have pi131 : (0 ≤ (t129 : Int)) = True := eq_true (of_decide_eq_true c9b0)
 have qi131 : (t129 < (y126.length : Int)) = True := eq_true (of_decide_eq_true c10b0)
 unfold spec_l31Out.J1_4_5_18 spec_l31Out.FR spec_l31Out.OPS at hJ1_4_5_18
 unfold spec_l31Out.J1_5_18 spec_l31Out.FR spec_l31Out.OPS
 ··skip
   rintro ⟨v119, adz_v119, gb132⟩ w21 ⟨h0_, h1_, h2_, h3_, h4_, h5_, h6_, h7_, h8_, h9_, h10_, h11_, h12_⟩
   have n0_ : Aside0 (Kd.R (Kd.int .i64) 3 w21 w.heap.size (fun _ => True) v119 y118) := ⟨h0_⟩
   have n1_ : Aside0 (∃ c_, (v119 : Value) = .slice (some adz_v119) y118.length c_) := ⟨h1_⟩
   have n2_ : Aside0 (w21.heap[gb113]? = some (.cells #[.int .i64 0, .int .i64 0, .int .i64 0, .int .i64 0] 53 (0, 0))) := ⟨h2_⟩
   have n3_ : Aside0 (w21.heap[gb132]? = some (.cells #[.int .i64 0, .int .i64 0, .int .i64 0, .int .i64 0] 53 (0, 0))) := ⟨h3_⟩
   have n4_ : Aside0 (w.heap.size ≤ gb132) := ⟨h4_⟩
   have n5_ : Aside0 (w0.heap.size ≤ gb132) := ⟨h5_⟩
   have n6_ : Aside0 (g ≠ gb132) := ⟨h6_⟩
   have n7_ : Aside0 (gb132 ≠ g) := ⟨h7_⟩
   have n8_ : Aside0 (gb113 ≠ gb132) := ⟨h8_⟩
   have n9_ : Aside0 (gb132 ≠ gb113) := ⟨h9_⟩
   have n10_ : Aside0 (IsS93 w0 w21 g s0_0 t115) := ⟨h10_⟩
   have n11_ : Aside0 (KeepBut w w21 g none) := ⟨h11_⟩
   have n12_ : Aside0 (Below w0.heap.size w0 w21) := ⟨h12_⟩
   clear h0_ h1_ h2_ h3_ h4_ h5_ h6_ h7_ h8_ h9_ h10_ h11_ h12_
   revert n0_ n1_ n2_ n3_ n4_ n5_ n6_ n7_ n8_ n9_ n10_ n11_ n12_
   intro HO120 HA_HO120 BK113 BK132 GW132 GE132 NB0_132 NB132_0 NB113_132 NB132_113 HI0 HK HB
   have hHeld := trivial
   obtain ⟨co22, eo22⟩ := HA_HO120.out
   clear HA_HO120
   subst eo22
   refine norm_ (a' := ?_) ?_ ?_
   rotate_left
   ·simp only [putAll, Act.put, List.setIfInBounds_toArray, List.set_cons_zero, List.set_cons_succ]
    rfl
   refine one_ (i := 4) (N := some 8) spec_l31Out.m57 rfl rfl (one_of HT_.out (by kernel_rfl)) (by decide) (fun K hK => ?_)
   refine goes_ Try.func53 (by kernel_rfl) rfl #[.pointer (some ⟨g, 0, none⟩), .int .i64 4] (by rfl) rfl rfl (by (try simp only [List.map_toArray, List.map_cons, List.map_nil]); first | done | rfl | (simp only [List.length_drop, List.length_take]; rfl)) ?_
   with_reducible refine (spec_l30Rd_pick.calls k g s0_0 t115 4 t116 t117 w0 _ ?side1 ?side2 A3.out).mono ?_
   (case side1 => repeat (first | (with_reducible first | exact HI0.out | apply IsS93.alloc | apply IsS93.drewN | apply IsS93.drew | apply IsS93.set_1 | refine IsS93.far ?_ NB0_113.out _ | refine IsS93.far ?_ NB0_132.out _) | exact HI0.out))
   (case side2 => repeat (first | (with_reducible first | exact HB.out | apply yA | apply yN | apply yD | refine yS ?_ (IsS93.ge HI0.out) | refine yS ?_ GE113.out | refine yS ?_ GE132.out) | exact HB.out))
   rintro e w23 ⟨rfl, hi, hb, hk⟩
   refine ⟨_, rfl, ?_⟩
   have n0_ := qM (KeepBut.blk hk (g' := gb113) (o := .cells #[.int .i64 0, .int .i64 0, .int .i64 0, .int .i64 0] 53 (0, 0)) BK113.out NB113_0.out (by simp))
   have n1_ := qM (Kd.R_mono (Kd.R_keep (IsS93.apart (show IsS93 w0 _ g s0_0 t115 from by repeat (first | (with_reducible first | exact HI0.out | apply IsS93.alloc | apply IsS93.drewN | apply IsS93.drew | apply IsS93.set_1 | refine IsS93.far ?_ NB0_113.out _ | refine IsS93.far ?_ NB0_132.out _) | exact HI0.out)) HO120.out (by decide)) hk (fun _ h => h.2)) (fun _ h => h.1))
   have n2_ := qM (KeepBut.blk hk (g' := gb132) (o := .cells #[.int .i64 0, .int .i64 0, .int .i64 0, .int .i64 0] 53 (0, 0)) BK132.out NB132_0.out (by simp))
   have n3_ := qM (KeepBut.trans HK.out hk (.inl rfl))
   have n4_ := qM (hb)
   have n5_ := qM (hi)
   clear BK113 HO120 BK132 HK HB HI0
   revert n0_ n1_ n2_ n3_ n4_ n5_
   intro BK113 HO120 BK132 HK HB HI0
   (try clear hb)
   (try clear hb2)
   (try clear hk)
   (try clear hi)
   refine hK.out _ _ trivial (fun hHeld => ?_)
   clear hK K
   refine norm_ (a' := ?_) ?_ ?_
   rotate_left
   ·show Act.put _ (some 8) _ = _
    simp only [Act.put, List.setIfInBounds_toArray, List.set_cons_zero, List.set_cons_succ, i64_w, i32_w]
    rfl
   exact norm_ (by first | (simp only [putAll, Act.put, List.setIfInBounds_toArray, List.set_cons_zero, List.set_cons_succ]; done) | (simp only [putAll, Act.put, List.setIfInBounds_toArray, List.set_cons_zero, List.set_cons_succ]; rfl)) (hJ1_4_5_18 (.slice (some adz_v119) y118.length co22, adz_v119, gb132) _ ⟨HO120.out, ⟨_, rfl⟩, BK113.out, BK132.out, GW132.out, GE132.out, NB0_132.out, NB132_0.out, NB113_132.out, NB132_113.out, HI0.out, HK.out, HB.out⟩)
set_option maxHeartbeats 8000000 in
set_option maxRecDepth 100000 in
theorem spec_l31Out.j1_4 (k g : Nat) (s0_0 : List Int) (s0_1 : Int) (w0 w : World) (gb113 : Nat) (t114 t115 t116 t117 t121 t122 t124 t125 t129 t130 : Int) (y118 y126 : List Int) (K : Act → World → Prop) (post : Ending → World → Prop) (hC : spec_l31Out.CX k g s0_0 s0_1 w0 w gb113 t114 t115 t116 t117 t121 t122 t124 t125 t129 t130 y118 y126) (hJ1_4_5 : spec_l31Out.J1_4_5 k g s0_0 s0_1 w0 w gb113 t114 t115 t116 t117 t121 t122 t124 t125 t129 t130 y118 y126 K post) (hJ1_4_7 : spec_l31Out.J1_4_7 k g s0_0 s0_1 w0 w gb113 t114 t115 t116 t117 t121 t122 t124 t125 t129 t130 y118 y126 K post) (hJ1_4_18 : spec_l31Out.J1_4_18 k g s0_0 s0_1 w0 w gb113 t114 t115 t116 t117 t121 t122 t124 t125 t129 t130 y118 y126 K post) : spec_l31Out.J1_4 k g s0_0 s0_1 w0 w gb113 t114 t115 t116 t117 t121 t122 t124 t125 t129 t130 y118 y126 K post := by
 obtain ⟨HW0, A2, A3, Ny118, A4, A7, Ny126, A8, GW113, GE113, NB0_113, NB113_0, c5b0, c6b0, c9b0, c10b0⟩ := hC
 have HT_ := qM spec_l31Out.tabO
 have HW_ := qM spec_l31Out.bits1
 have pi123 : (0 ≤ (t121 : Int)) = True := eq_true (of_decide_eq_true c5b0)
 have qi123 : (t121 < (y118.length : Int)) = True := eq_true (of_decide_eq_true c6b0)
 have pi131 : (0 ≤ (t129 : Int)) = True := eq_true (of_decide_eq_true c9b0)
 have qi131 : (t129 < (y126.length : Int)) = True := eq_true (of_decide_eq_true c10b0)
 unfold spec_l31Out.J1_4_5 spec_l31Out.FR spec_l31Out.OPS at hJ1_4_5
 unfold spec_l31Out.J1_4_7 spec_l31Out.FR spec_l31Out.OPS at hJ1_4_7
 unfold spec_l31Out.J1_4_18 spec_l31Out.FR spec_l31Out.OPS at hJ1_4_18
 unfold spec_l31Out.J1_4 spec_l31Out.FR spec_l31Out.OPS
 ··skip
   rintro _ w18 ⟨h0_, h1_, h2_, h3_⟩
   have n0_ : Aside0 (w18.heap[gb113]? = some (.cells #[.int .i64 0, .int .i64 0, .int .i64 0, .int .i64 0] 53 (0, 0))) := ⟨h0_⟩
   have n1_ : Aside0 (IsS93 w0 w18 g s0_0 t117) := ⟨h1_⟩
   have n2_ : Aside0 (KeepBut w w18 g none) := ⟨h2_⟩
   have n3_ : Aside0 (Below w0.heap.size w0 w18) := ⟨h3_⟩
   clear h0_ h1_ h2_ h3_
   revert n0_ n1_ n2_ n3_
   intro BK113 HI0 HK HB
   have hHeld := trivial
   refine norm_ (a' := ?_) ?_ ?_
   rotate_left
   ·simp only [putAll, Act.put, List.setIfInBounds_toArray, List.set_cons_zero, List.set_cons_succ]
    rfl
   refine three_ (i := 5) (j := 7) (k := 18) (Ni := some 9) (Nj := some 11) (Nk := some 3) spec_l31Out.m62 spec_l31Out.m64 spec_l31Out.m65 rfl rfl rfl rfl rfl rfl (three_of HT_.out (by kernel_rfl)) (by decide) (by decide) (by decide) (fun K hK => ?_) (fun K hK => ?_) (fun K hK => ?_)
   ·skip
    refine Kd.R_lit_step (Kd.int .i64) _ 3 ?hg (N := 9) ?hd (xs := ([0, 1, 2, 199, 200] : List Int)) (inner := [.int .i64 0, .int .i64 1, .int .i64 2, .int .i64 199, .int .i64 200]) (ok := fun _ => True) (okp := fun _ => True) ?hr ?hp (fun _ hk => hk) trivial (Below.refl _ _) (Nat.le_refl _) (by simp) ?_; (case hd => rfl); (case hg => rfl); (case hr => first | (go_simp; done) | (go_simp; rfl)); (case hp => exact (Reps.one (show Kd.M (Kd.int .i64) _ _ _ 0 [.int .i64 0] from rfl) (Reps.one (show Kd.M (Kd.int .i64) _ _ _ 1 [.int .i64 1] from rfl) (Reps.one (show Kd.M (Kd.int .i64) _ _ _ 2 [.int .i64 2] from rfl) (Reps.one (show Kd.M (Kd.int .i64) _ _ _ 199 [.int .i64 199] from rfl) (Reps.one (show Kd.M (Kd.int .i64) _ _ _ 200 [.int .i64 200] from rfl) (Reps.none _ _)))))))
    intro v119 w19 ho20 hb hg_ hnew_
    clear hg_ hnew_
    (first | rw [← Ny118.out] at ho20 | (simp only [Int.reduceToNat] at ho20; rw [← Ny118.out] at ho20))
    have n0_ := qM (Kd.R_lower ho20 (keep_size (w := w) (g := g) (row := none) HK.out))
    have n1_ := qM (IsS93.below HI0.out hb)
    have n2_ := qM (blk_below (g := gb113) (o := .cells #[.int .i64 0, .int .i64 0, .int .i64 0, .int .i64 0] 53 (0, 0)) BK113.out hb)
    have n3_ := qM (KeepBut.trans HK.out (KeepBut.of_below hb g none) (.inl rfl))
    have n4_ := qM (below_step HB.out hb)
    clear HI0 BK113 HK HB
    revert n0_ n1_ n2_ n3_ n4_
    intro HO120 HI0 BK113 HK HB
    clear hb ho20
    obtain ⟨Ao21, co21, eo21⟩ := Kd.R_slice HO120.out
    subst eo21
    obtain ⟨ado21, fo21, _⟩ := Kd.at_int (qR HO120.out).2.2 0 (by decide) (by rw [Ny118.out]; simp)
    cases fo21
    refine hK.out _ _ trivial (fun hHeld => ?_)
    clear hK K
    refine norm_ (a' := ?_) ?_ ?_
    rotate_left
    ·show Act.put _ (some 9) _ = _
     simp only [Act.put, List.setIfInBounds_toArray, List.set_cons_zero, List.set_cons_succ, i64_w, i32_w]
     rfl
    exact norm_ (by first | (simp only [putAll, Act.put, List.setIfInBounds_toArray, List.set_cons_zero, List.set_cons_succ]; done) | (simp only [putAll, Act.put, List.setIfInBounds_toArray, List.set_cons_zero, List.set_cons_succ]; rfl)) (hJ1_4_5 (.slice (some ado21) y118.length co21, ado21) _ ⟨HO120.out, ⟨_, rfl⟩, BK113.out, HI0.out, HK.out, HB.out⟩)
   ·skip
    refine goes_ Try.func53 (by kernel_rfl) rfl #[.pointer (some ⟨g, 0, none⟩), .int .i64 5] (by rfl) rfl rfl (by (try simp only [List.map_toArray, List.map_cons, List.map_nil]); first | done | rfl | (simp only [List.length_drop, List.length_take]; rfl)) ?_
    with_reducible refine (spec_l30Rd_pick.calls k g s0_0 t117 5 t121 t122 w0 _ ?side1 ?side2 A4.out).mono ?_
    (case side1 => repeat (first | (with_reducible first | exact HI0.out | apply IsS93.alloc | apply IsS93.drewN | apply IsS93.drew | apply IsS93.set_1 | refine IsS93.far ?_ NB0_113.out _) | exact HI0.out))
    (case side2 => repeat (first | (with_reducible first | exact HB.out | apply yA | apply yN | apply yD | refine yS ?_ (IsS93.ge HI0.out) | refine yS ?_ GE113.out) | exact HB.out))
    rintro e w19 ⟨rfl, hi, hb, hk⟩
    refine ⟨_, rfl, ?_⟩
    have n0_ := qM (KeepBut.blk hk (g' := gb113) (o := .cells #[.int .i64 0, .int .i64 0, .int .i64 0, .int .i64 0] 53 (0, 0)) BK113.out NB113_0.out (by simp))
    have n1_ := qM (KeepBut.trans HK.out hk (.inl rfl))
    have n2_ := qM (hb)
    have n3_ := qM (hi)
    clear BK113 HK HB HI0
    revert n0_ n1_ n2_ n3_
    intro BK113 HK HB HI0
    (try clear hb)
    (try clear hb2)
    (try clear hk)
    (try clear hi)
    refine hK.out _ _ trivial (fun hHeld => ?_)
    clear hK K
    refine norm_ (a' := ?_) ?_ ?_
    rotate_left
    ·show Act.put _ (some 11) _ = _
     simp only [Act.put, List.setIfInBounds_toArray, List.set_cons_zero, List.set_cons_succ, i64_w, i32_w]
     rfl
    exact norm_ (by first | (simp only [putAll, Act.put, List.setIfInBounds_toArray, List.set_cons_zero, List.set_cons_succ]; done) | (simp only [putAll, Act.put, List.setIfInBounds_toArray, List.set_cons_zero, List.set_cons_succ]; rfl)) (hJ1_4_7 () _ ⟨BK113.out, HI0.out, HK.out, HB.out⟩)
   ·skip
    refine box_step ?hg (N := 3) ?hd (cs := #[.int .i64 0, .int .i64 0, .int .i64 0, .int .i64 0]) (t := 53) ?hr ?_; (case hd => rfl); (case hg => rfl); (case hr => first | (go_simp; done) | (go_simp; rfl))
    intro gb132 hg w19 hbox hb
    have n0_ := qM (IsS93.below HI0.out hb)
    have n1_ := qM (blk_below (g := gb113) (o := .cells #[.int .i64 0, .int .i64 0, .int .i64 0, .int .i64 0] 53 (0, 0)) BK113.out hb)
    have n2_ := qM (KeepBut.trans HK.out (KeepBut.of_below hb g none) (.inl rfl))
    have n3_ := qM (below_step HB.out hb)
    have n4_ := qM (hbox)
    have n5_ := qM ((by rw [hg]; exact (keep_size (w := w) (g := g) (row := none) HK.out) : w.heap.size ≤ gb132))
    have n6_ := qM ((Nat.le_trans HW0.out (by rw [hg]; exact (keep_size (w := w) (g := g) (row := none) HK.out) : w.heap.size ≤ gb132) : w0.heap.size ≤ gb132))
    have n7_ := qM ((by rw [hg]; exact Nat.ne_of_lt (blk_lt (g := gb113) (o := .cells #[.int .i64 0, .int .i64 0, .int .i64 0, .int .i64 0] 53 (0, 0)) BK113.out) : gb113 ≠ gb132))
    have n8_ := qM ((by rw [hg]; exact Nat.ne_of_gt (blk_lt (g := gb113) (o := .cells #[.int .i64 0, .int .i64 0, .int .i64 0, .int .i64 0] 53 (0, 0)) BK113.out) : gb132 ≠ gb113))
    have n9_ := qM ((by rw [hg]; exact Nat.ne_of_lt (IsS93.lt (show IsS93 w0 _ g s0_0 t117 from by repeat (first | (with_reducible first | exact HI0.out | apply IsS93.alloc | apply IsS93.drewN | apply IsS93.drew | apply IsS93.set_1 | refine IsS93.far ?_ NB0_113.out _) | exact HI0.out))) : g ≠ gb132))
    have n10_ := qM ((by rw [hg]; exact Nat.ne_of_gt (IsS93.lt (show IsS93 w0 _ g s0_0 t117 from by repeat (first | (with_reducible first | exact HI0.out | apply IsS93.alloc | apply IsS93.drewN | apply IsS93.drew | apply IsS93.set_1 | refine IsS93.far ?_ NB0_113.out _) | exact HI0.out))) : gb132 ≠ g))
    clear HI0 BK113 HK HB
    revert n0_ n1_ n2_ n3_ n4_ n5_ n6_ n7_ n8_ n9_ n10_
    intro HI0 BK113 HK HB BK132 GW132 GE132 NB113_132 NB132_113 NB0_132 NB132_0
    clear hb hbox hg
    refine hK.out _ _ trivial (fun hHeld => ?_)
    clear hK K
    refine norm_ (a' := ?_) ?_ ?_
    rotate_left
    ·show Act.put _ (some 3) _ = _
     simp only [Act.put, List.setIfInBounds_toArray, List.set_cons_zero, List.set_cons_succ, i64_w, i32_w]
     rfl
    exact norm_ (by first | (simp only [putAll, Act.put, List.setIfInBounds_toArray, List.set_cons_zero, List.set_cons_succ]; done) | (simp only [putAll, Act.put, List.setIfInBounds_toArray, List.set_cons_zero, List.set_cons_succ]; rfl)) (hJ1_4_18 (gb132) _ ⟨BK113.out, BK132.out, GW132.out, GE132.out, NB0_132.out, NB132_0.out, NB113_132.out, NB132_113.out, HI0.out, HK.out, HB.out⟩)
set_option maxHeartbeats 8000000 in
set_option maxRecDepth 100000 in
theorem spec_l31Out.j1_5 (k g : Nat) (s0_0 : List Int) (s0_1 : Int) (w0 w : World) (gb113 : Nat) (t114 t115 t116 t117 t121 t122 t124 t125 t129 t130 : Int) (y118 y126 : List Int) (K : Act → World → Prop) (post : Ending → World → Prop) (hC : spec_l31Out.CX k g s0_0 s0_1 w0 w gb113 t114 t115 t116 t117 t121 t122 t124 t125 t129 t130 y118 y126) (hJ1_4_5 : spec_l31Out.J1_4_5 k g s0_0 s0_1 w0 w gb113 t114 t115 t116 t117 t121 t122 t124 t125 t129 t130 y118 y126 K post) (hJ1_5_18 : spec_l31Out.J1_5_18 k g s0_0 s0_1 w0 w gb113 t114 t115 t116 t117 t121 t122 t124 t125 t129 t130 y118 y126 K post) : spec_l31Out.J1_5 k g s0_0 s0_1 w0 w gb113 t114 t115 t116 t117 t121 t122 t124 t125 t129 t130 y118 y126 K post := by
 obtain ⟨HW0, A2, A3, Ny118, A4, A7, Ny126, A8, GW113, GE113, NB0_113, NB113_0, c5b0, c6b0, c9b0, c10b0⟩ := hC
 have HT_ := qM spec_l31Out.tabO
 have HW_ := qM spec_l31Out.bits1
 have pi123 : (0 ≤ (t121 : Int)) = True := eq_true (of_decide_eq_true c5b0)
 have qi123 : (t121 < (y118.length : Int)) = True := eq_true (of_decide_eq_true c6b0)
 have pi131 : (0 ≤ (t129 : Int)) = True := eq_true (of_decide_eq_true c9b0)
 have qi131 : (t129 < (y126.length : Int)) = True := eq_true (of_decide_eq_true c10b0)
 unfold spec_l31Out.J1_4_5 spec_l31Out.FR spec_l31Out.OPS at hJ1_4_5
 unfold spec_l31Out.J1_5_18 spec_l31Out.FR spec_l31Out.OPS at hJ1_5_18
 unfold spec_l31Out.J1_5 spec_l31Out.FR spec_l31Out.OPS
 ··skip
   rintro ⟨v119, adz_v119⟩ w20 ⟨h0_, h1_, h2_, h3_, h4_, h5_⟩
   have n0_ : Aside0 (Kd.R (Kd.int .i64) 3 w20 w.heap.size (fun _ => True) v119 y118) := ⟨h0_⟩
   have n1_ : Aside0 (∃ c_, (v119 : Value) = .slice (some adz_v119) y118.length c_) := ⟨h1_⟩
   have n2_ : Aside0 (w20.heap[gb113]? = some (.cells #[.int .i64 0, .int .i64 0, .int .i64 0, .int .i64 0] 53 (0, 0))) := ⟨h2_⟩
   have n3_ : Aside0 (IsS93 w0 w20 g s0_0 t115) := ⟨h3_⟩
   have n4_ : Aside0 (KeepBut w w20 g none) := ⟨h4_⟩
   have n5_ : Aside0 (Below w0.heap.size w0 w20) := ⟨h5_⟩
   clear h0_ h1_ h2_ h3_ h4_ h5_
   revert n0_ n1_ n2_ n3_ n4_ n5_
   intro HO120 HA_HO120 BK113 HI0 HK HB
   have hHeld := trivial
   obtain ⟨co21, eo21⟩ := HA_HO120.out
   clear HA_HO120
   subst eo21
   refine norm_ (a' := ?_) ?_ ?_
   rotate_left
   ·simp only [putAll, Act.put, List.setIfInBounds_toArray, List.set_cons_zero, List.set_cons_succ]
    rfl
   refine two_ (i := 4) (j := 18) (Ni := some 8) (Nj := some 3) spec_l31Out.m62 spec_l31Out.m66 rfl rfl rfl rfl (two_of HT_.out (by kernel_rfl)) (by decide) (by decide) (fun K hK => ?_) (fun K hK => ?_)
   ·skip
    refine goes_ Try.func53 (by kernel_rfl) rfl #[.pointer (some ⟨g, 0, none⟩), .int .i64 4] (by rfl) rfl rfl (by (try simp only [List.map_toArray, List.map_cons, List.map_nil]); first | done | rfl | (simp only [List.length_drop, List.length_take]; rfl)) ?_
    with_reducible refine (spec_l30Rd_pick.calls k g s0_0 t115 4 t116 t117 w0 _ ?side1 ?side2 A3.out).mono ?_
    (case side1 => repeat (first | (with_reducible first | exact HI0.out | apply IsS93.alloc | apply IsS93.drewN | apply IsS93.drew | apply IsS93.set_1 | refine IsS93.far ?_ NB0_113.out _) | exact HI0.out))
    (case side2 => repeat (first | (with_reducible first | exact HB.out | apply yA | apply yN | apply yD | refine yS ?_ (IsS93.ge HI0.out) | refine yS ?_ GE113.out) | exact HB.out))
    rintro e w22 ⟨rfl, hi, hb, hk⟩
    refine ⟨_, rfl, ?_⟩
    have n0_ := qM (KeepBut.blk hk (g' := gb113) (o := .cells #[.int .i64 0, .int .i64 0, .int .i64 0, .int .i64 0] 53 (0, 0)) BK113.out NB113_0.out (by simp))
    have n1_ := qM (Kd.R_mono (Kd.R_keep (IsS93.apart (show IsS93 w0 _ g s0_0 t115 from by repeat (first | (with_reducible first | exact HI0.out | apply IsS93.alloc | apply IsS93.drewN | apply IsS93.drew | apply IsS93.set_1 | refine IsS93.far ?_ NB0_113.out _) | exact HI0.out)) HO120.out (by decide)) hk (fun _ h => h.2)) (fun _ h => h.1))
    have n2_ := qM (KeepBut.trans HK.out hk (.inl rfl))
    have n3_ := qM (hb)
    have n4_ := qM (hi)
    clear BK113 HO120 HK HB HI0
    revert n0_ n1_ n2_ n3_ n4_
    intro BK113 HO120 HK HB HI0
    (try clear hb)
    (try clear hb2)
    (try clear hk)
    (try clear hi)
    refine hK.out _ _ trivial (fun hHeld => ?_)
    clear hK K
    refine norm_ (a' := ?_) ?_ ?_
    rotate_left
    ·show Act.put _ (some 8) _ = _
     simp only [Act.put, List.setIfInBounds_toArray, List.set_cons_zero, List.set_cons_succ, i64_w, i32_w]
     rfl
    exact norm_ (by first | (simp only [putAll, Act.put, List.setIfInBounds_toArray, List.set_cons_zero, List.set_cons_succ]; done) | (simp only [putAll, Act.put, List.setIfInBounds_toArray, List.set_cons_zero, List.set_cons_succ]; rfl)) (hJ1_4_5 (.slice (some adz_v119) y118.length co21, adz_v119) _ ⟨HO120.out, ⟨_, rfl⟩, BK113.out, HI0.out, HK.out, HB.out⟩)
   ·skip
    refine box_step ?hg (N := 3) ?hd (cs := #[.int .i64 0, .int .i64 0, .int .i64 0, .int .i64 0]) (t := 53) ?hr ?_; (case hd => rfl); (case hg => rfl); (case hr => first | (go_simp; done) | (go_simp; rfl))
    intro gb132 hg w22 hbox hb
    have n0_ := qM (Kd.R_below HO120.out hb)
    have n1_ := qM (IsS93.below HI0.out hb)
    have n2_ := qM (blk_below (g := gb113) (o := .cells #[.int .i64 0, .int .i64 0, .int .i64 0, .int .i64 0] 53 (0, 0)) BK113.out hb)
    have n3_ := qM (KeepBut.trans HK.out (KeepBut.of_below hb g none) (.inl rfl))
    have n4_ := qM (below_step HB.out hb)
    have n5_ := qM (hbox)
    have n6_ := qM ((by rw [hg]; exact (keep_size (w := w) (g := g) (row := none) HK.out) : w.heap.size ≤ gb132))
    have n7_ := qM ((Nat.le_trans HW0.out (by rw [hg]; exact (keep_size (w := w) (g := g) (row := none) HK.out) : w.heap.size ≤ gb132) : w0.heap.size ≤ gb132))
    have n8_ := qM ((by rw [hg]; exact Nat.ne_of_lt (blk_lt (g := gb113) (o := .cells #[.int .i64 0, .int .i64 0, .int .i64 0, .int .i64 0] 53 (0, 0)) BK113.out) : gb113 ≠ gb132))
    have n9_ := qM ((by rw [hg]; exact Nat.ne_of_gt (blk_lt (g := gb113) (o := .cells #[.int .i64 0, .int .i64 0, .int .i64 0, .int .i64 0] 53 (0, 0)) BK113.out) : gb132 ≠ gb113))
    have n10_ := qM ((by rw [hg]; exact Nat.ne_of_lt (IsS93.lt (show IsS93 w0 _ g s0_0 t115 from by repeat (first | (with_reducible first | exact HI0.out | apply IsS93.alloc | apply IsS93.drewN | apply IsS93.drew | apply IsS93.set_1 | refine IsS93.far ?_ NB0_113.out _) | exact HI0.out))) : g ≠ gb132))
    have n11_ := qM ((by rw [hg]; exact Nat.ne_of_gt (IsS93.lt (show IsS93 w0 _ g s0_0 t115 from by repeat (first | (with_reducible first | exact HI0.out | apply IsS93.alloc | apply IsS93.drewN | apply IsS93.drew | apply IsS93.set_1 | refine IsS93.far ?_ NB0_113.out _) | exact HI0.out))) : gb132 ≠ g))
    clear HO120 HI0 BK113 HK HB
    revert n0_ n1_ n2_ n3_ n4_ n5_ n6_ n7_ n8_ n9_ n10_ n11_
    intro HO120 HI0 BK113 HK HB BK132 GW132 GE132 NB113_132 NB132_113 NB0_132 NB132_0
    clear hb hbox hg
    refine hK.out _ _ trivial (fun hHeld => ?_)
    clear hK K
    refine norm_ (a' := ?_) ?_ ?_
    rotate_left
    ·show Act.put _ (some 3) _ = _
     simp only [Act.put, List.setIfInBounds_toArray, List.set_cons_zero, List.set_cons_succ, i64_w, i32_w]
     rfl
    exact norm_ (by first | (simp only [putAll, Act.put, List.setIfInBounds_toArray, List.set_cons_zero, List.set_cons_succ]; done) | (simp only [putAll, Act.put, List.setIfInBounds_toArray, List.set_cons_zero, List.set_cons_succ]; rfl)) (hJ1_5_18 (.slice (some adz_v119) y118.length co21, adz_v119, gb132) _ ⟨HO120.out, ⟨_, rfl⟩, BK113.out, BK132.out, GW132.out, GE132.out, NB0_132.out, NB132_0.out, NB113_132.out, NB132_113.out, HI0.out, HK.out, HB.out⟩)
set_option maxHeartbeats 8000000 in
set_option maxRecDepth 100000 in
theorem spec_l31Out.j1_18 (k g : Nat) (s0_0 : List Int) (s0_1 : Int) (w0 w : World) (gb113 : Nat) (t114 t115 t116 t117 t121 t122 t124 t125 t129 t130 : Int) (y118 y126 : List Int) (K : Act → World → Prop) (post : Ending → World → Prop) (hC : spec_l31Out.CX k g s0_0 s0_1 w0 w gb113 t114 t115 t116 t117 t121 t122 t124 t125 t129 t130 y118 y126) (hJ1_4_18 : spec_l31Out.J1_4_18 k g s0_0 s0_1 w0 w gb113 t114 t115 t116 t117 t121 t122 t124 t125 t129 t130 y118 y126 K post) (hJ1_5_18 : spec_l31Out.J1_5_18 k g s0_0 s0_1 w0 w gb113 t114 t115 t116 t117 t121 t122 t124 t125 t129 t130 y118 y126 K post) : spec_l31Out.J1_18 k g s0_0 s0_1 w0 w gb113 t114 t115 t116 t117 t121 t122 t124 t125 t129 t130 y118 y126 K post := by
 obtain ⟨HW0, A2, A3, Ny118, A4, A7, Ny126, A8, GW113, GE113, NB0_113, NB113_0, c5b0, c6b0, c9b0, c10b0⟩ := hC
 have HT_ := qM spec_l31Out.tabO
 have HW_ := qM spec_l31Out.bits1
 have pi123 : (0 ≤ (t121 : Int)) = True := eq_true (of_decide_eq_true c5b0)
 have qi123 : (t121 < (y118.length : Int)) = True := eq_true (of_decide_eq_true c6b0)
 have pi131 : (0 ≤ (t129 : Int)) = True := eq_true (of_decide_eq_true c9b0)
 have qi131 : (t129 < (y126.length : Int)) = True := eq_true (of_decide_eq_true c10b0)
 unfold spec_l31Out.J1_4_18 spec_l31Out.FR spec_l31Out.OPS at hJ1_4_18
 unfold spec_l31Out.J1_5_18 spec_l31Out.FR spec_l31Out.OPS at hJ1_5_18
 unfold spec_l31Out.J1_18 spec_l31Out.FR spec_l31Out.OPS
 ··skip
   rintro gb132 w18 ⟨h0_, h1_, h2_, h3_, h4_, h5_, h6_, h7_, h8_, h9_, h10_⟩
   have n0_ : Aside0 (w18.heap[gb113]? = some (.cells #[.int .i64 0, .int .i64 0, .int .i64 0, .int .i64 0] 53 (0, 0))) := ⟨h0_⟩
   have n1_ : Aside0 (w18.heap[gb132]? = some (.cells #[.int .i64 0, .int .i64 0, .int .i64 0, .int .i64 0] 53 (0, 0))) := ⟨h1_⟩
   have n2_ : Aside0 (w.heap.size ≤ gb132) := ⟨h2_⟩
   have n3_ : Aside0 (w0.heap.size ≤ gb132) := ⟨h3_⟩
   have n4_ : Aside0 (g ≠ gb132) := ⟨h4_⟩
   have n5_ : Aside0 (gb132 ≠ g) := ⟨h5_⟩
   have n6_ : Aside0 (gb113 ≠ gb132) := ⟨h6_⟩
   have n7_ : Aside0 (gb132 ≠ gb113) := ⟨h7_⟩
   have n8_ : Aside0 (IsS93 w0 w18 g s0_0 t115) := ⟨h8_⟩
   have n9_ : Aside0 (KeepBut w w18 g none) := ⟨h9_⟩
   have n10_ : Aside0 (Below w0.heap.size w0 w18) := ⟨h10_⟩
   clear h0_ h1_ h2_ h3_ h4_ h5_ h6_ h7_ h8_ h9_ h10_
   revert n0_ n1_ n2_ n3_ n4_ n5_ n6_ n7_ n8_ n9_ n10_
   intro BK113 BK132 GW132 GE132 NB0_132 NB132_0 NB113_132 NB132_113 HI0 HK HB
   have hHeld := trivial
   refine norm_ (a' := ?_) ?_ ?_
   rotate_left
   ·simp only [putAll, Act.put, List.setIfInBounds_toArray, List.set_cons_zero, List.set_cons_succ]
    rfl
   refine two_ (i := 4) (j := 5) (Ni := some 8) (Nj := some 9) spec_l31Out.m65 spec_l31Out.m66 rfl rfl rfl rfl (two_of HT_.out (by kernel_rfl)) (by decide) (by decide) (fun K hK => ?_) (fun K hK => ?_)
   ·skip
    refine goes_ Try.func53 (by kernel_rfl) rfl #[.pointer (some ⟨g, 0, none⟩), .int .i64 4] (by rfl) rfl rfl (by (try simp only [List.map_toArray, List.map_cons, List.map_nil]); first | done | rfl | (simp only [List.length_drop, List.length_take]; rfl)) ?_
    with_reducible refine (spec_l30Rd_pick.calls k g s0_0 t115 4 t116 t117 w0 _ ?side1 ?side2 A3.out).mono ?_
    (case side1 => repeat (first | (with_reducible first | exact HI0.out | apply IsS93.alloc | apply IsS93.drewN | apply IsS93.drew | apply IsS93.set_1 | refine IsS93.far ?_ NB0_113.out _ | refine IsS93.far ?_ NB0_132.out _) | exact HI0.out))
    (case side2 => repeat (first | (with_reducible first | exact HB.out | apply yA | apply yN | apply yD | refine yS ?_ (IsS93.ge HI0.out) | refine yS ?_ GE113.out | refine yS ?_ GE132.out) | exact HB.out))
    rintro e w19 ⟨rfl, hi, hb, hk⟩
    refine ⟨_, rfl, ?_⟩
    have n0_ := qM (KeepBut.blk hk (g' := gb113) (o := .cells #[.int .i64 0, .int .i64 0, .int .i64 0, .int .i64 0] 53 (0, 0)) BK113.out NB113_0.out (by simp))
    have n1_ := qM (KeepBut.blk hk (g' := gb132) (o := .cells #[.int .i64 0, .int .i64 0, .int .i64 0, .int .i64 0] 53 (0, 0)) BK132.out NB132_0.out (by simp))
    have n2_ := qM (KeepBut.trans HK.out hk (.inl rfl))
    have n3_ := qM (hb)
    have n4_ := qM (hi)
    clear BK113 BK132 HK HB HI0
    revert n0_ n1_ n2_ n3_ n4_
    intro BK113 BK132 HK HB HI0
    (try clear hb)
    (try clear hb2)
    (try clear hk)
    (try clear hi)
    refine hK.out _ _ trivial (fun hHeld => ?_)
    clear hK K
    refine norm_ (a' := ?_) ?_ ?_
    rotate_left
    ·show Act.put _ (some 8) _ = _
     simp only [Act.put, List.setIfInBounds_toArray, List.set_cons_zero, List.set_cons_succ, i64_w, i32_w]
     rfl
    exact norm_ (by first | (simp only [putAll, Act.put, List.setIfInBounds_toArray, List.set_cons_zero, List.set_cons_succ]; done) | (simp only [putAll, Act.put, List.setIfInBounds_toArray, List.set_cons_zero, List.set_cons_succ]; rfl)) (hJ1_4_18 (gb132) _ ⟨BK113.out, BK132.out, GW132.out, GE132.out, NB0_132.out, NB132_0.out, NB113_132.out, NB132_113.out, HI0.out, HK.out, HB.out⟩)
   ·skip
    refine Kd.R_lit_step (Kd.int .i64) _ 3 ?hg (N := 9) ?hd (xs := ([0, 1, 2, 199, 200] : List Int)) (inner := [.int .i64 0, .int .i64 1, .int .i64 2, .int .i64 199, .int .i64 200]) (ok := fun _ => True) (okp := fun _ => True) ?hr ?hp (fun _ hk => hk) trivial (Below.refl _ _) (Nat.le_refl _) (by simp) ?_; (case hd => rfl); (case hg => rfl); (case hr => first | (go_simp; done) | (go_simp; rfl)); (case hp => exact (Reps.one (show Kd.M (Kd.int .i64) _ _ _ 0 [.int .i64 0] from rfl) (Reps.one (show Kd.M (Kd.int .i64) _ _ _ 1 [.int .i64 1] from rfl) (Reps.one (show Kd.M (Kd.int .i64) _ _ _ 2 [.int .i64 2] from rfl) (Reps.one (show Kd.M (Kd.int .i64) _ _ _ 199 [.int .i64 199] from rfl) (Reps.one (show Kd.M (Kd.int .i64) _ _ _ 200 [.int .i64 200] from rfl) (Reps.none _ _)))))))
    intro v119 w19 ho20 hb hg_ hnew_
    clear hg_ hnew_
    (first | rw [← Ny118.out] at ho20 | (simp only [Int.reduceToNat] at ho20; rw [← Ny118.out] at ho20))
    have n0_ := qM (Kd.R_lower ho20 (keep_size (w := w) (g := g) (row := none) HK.out))
    have n1_ := qM (IsS93.below HI0.out hb)
    have n2_ := qM (blk_below (g := gb113) (o := .cells #[.int .i64 0, .int .i64 0, .int .i64 0, .int .i64 0] 53 (0, 0)) BK113.out hb)
    have n3_ := qM (blk_below (g := gb132) (o := .cells #[.int .i64 0, .int .i64 0, .int .i64 0, .int .i64 0] 53 (0, 0)) BK132.out hb)
    have n4_ := qM (KeepBut.trans HK.out (KeepBut.of_below hb g none) (.inl rfl))
    have n5_ := qM (below_step HB.out hb)
    clear HI0 BK113 BK132 HK HB
    revert n0_ n1_ n2_ n3_ n4_ n5_
    intro HO120 HI0 BK113 BK132 HK HB
    clear hb ho20
    obtain ⟨Ao21, co21, eo21⟩ := Kd.R_slice HO120.out
    subst eo21
    obtain ⟨ado21, fo21, _⟩ := Kd.at_int (qR HO120.out).2.2 0 (by decide) (by rw [Ny118.out]; simp)
    cases fo21
    refine hK.out _ _ trivial (fun hHeld => ?_)
    clear hK K
    refine norm_ (a' := ?_) ?_ ?_
    rotate_left
    ·show Act.put _ (some 9) _ = _
     simp only [Act.put, List.setIfInBounds_toArray, List.set_cons_zero, List.set_cons_succ, i64_w, i32_w]
     rfl
    exact norm_ (by first | (simp only [putAll, Act.put, List.setIfInBounds_toArray, List.set_cons_zero, List.set_cons_succ]; done) | (simp only [putAll, Act.put, List.setIfInBounds_toArray, List.set_cons_zero, List.set_cons_succ]; rfl)) (hJ1_5_18 (.slice (some ado21) y118.length co21, ado21, gb132) _ ⟨HO120.out, ⟨_, rfl⟩, BK113.out, BK132.out, GW132.out, GE132.out, NB0_132.out, NB132_0.out, NB113_132.out, NB132_113.out, HI0.out, HK.out, HB.out⟩)
set_option maxHeartbeats 8000000 in
set_option maxRecDepth 100000 in
theorem spec_l31Out.j5_18 (k g : Nat) (s0_0 : List Int) (s0_1 : Int) (w0 w : World) (gb113 : Nat) (t114 t115 t116 t117 t121 t122 t124 t125 t129 t130 : Int) (y118 y126 : List Int) (K : Act → World → Prop) (post : Ending → World → Prop) (hC : spec_l31Out.CX k g s0_0 s0_1 w0 w gb113 t114 t115 t116 t117 t121 t122 t124 t125 t129 t130 y118 y126) (hJ1_5_18 : spec_l31Out.J1_5_18 k g s0_0 s0_1 w0 w gb113 t114 t115 t116 t117 t121 t122 t124 t125 t129 t130 y118 y126 K post) : spec_l31Out.J5_18 k g s0_0 s0_1 w0 w gb113 t114 t115 t116 t117 t121 t122 t124 t125 t129 t130 y118 y126 K post := by
 obtain ⟨HW0, A2, A3, Ny118, A4, A7, Ny126, A8, GW113, GE113, NB0_113, NB113_0, c5b0, c6b0, c9b0, c10b0⟩ := hC
 have HT_ := qM spec_l31Out.tabO
 have HW_ := qM spec_l31Out.bits1
 have pi123 : (0 ≤ (t121 : Int)) = True := eq_true (of_decide_eq_true c5b0)
 have qi123 : (t121 < (y118.length : Int)) = True := eq_true (of_decide_eq_true c6b0)
 have pi131 : (0 ≤ (t129 : Int)) = True := eq_true (of_decide_eq_true c9b0)
 have qi131 : (t129 < (y126.length : Int)) = True := eq_true (of_decide_eq_true c10b0)
 unfold spec_l31Out.J1_5_18 spec_l31Out.FR spec_l31Out.OPS at hJ1_5_18
 unfold spec_l31Out.J5_18 spec_l31Out.FR spec_l31Out.OPS
 ··skip
   rintro ⟨v119, adz_v119, gb132⟩ w20 ⟨h0_, h1_, h2_, h3_, h4_, h5_, h6_, h7_, h8_, h9_, h10_, h11_, h12_⟩
   have n0_ : Aside0 (Kd.R (Kd.int .i64) 3 w20 w.heap.size (fun _ => True) v119 y118) := ⟨h0_⟩
   have n1_ : Aside0 (∃ c_, (v119 : Value) = .slice (some adz_v119) y118.length c_) := ⟨h1_⟩
   have n2_ : Aside0 (w20.heap[gb113]? = some (.cells #[.int .i64 0, .int .i64 0, .int .i64 0, .int .i64 0] 53 (0, 0))) := ⟨h2_⟩
   have n3_ : Aside0 (w20.heap[gb132]? = some (.cells #[.int .i64 0, .int .i64 0, .int .i64 0, .int .i64 0] 53 (0, 0))) := ⟨h3_⟩
   have n4_ : Aside0 (w.heap.size ≤ gb132) := ⟨h4_⟩
   have n5_ : Aside0 (w0.heap.size ≤ gb132) := ⟨h5_⟩
   have n6_ : Aside0 (g ≠ gb132) := ⟨h6_⟩
   have n7_ : Aside0 (gb132 ≠ g) := ⟨h7_⟩
   have n8_ : Aside0 (gb113 ≠ gb132) := ⟨h8_⟩
   have n9_ : Aside0 (gb132 ≠ gb113) := ⟨h9_⟩
   have n10_ : Aside0 (IsS93 w0 w20 g s0_0 s0_1) := ⟨h10_⟩
   have n11_ : Aside0 (KeepBut w w20 g none) := ⟨h11_⟩
   have n12_ : Aside0 (Below w0.heap.size w0 w20) := ⟨h12_⟩
   clear h0_ h1_ h2_ h3_ h4_ h5_ h6_ h7_ h8_ h9_ h10_ h11_ h12_
   revert n0_ n1_ n2_ n3_ n4_ n5_ n6_ n7_ n8_ n9_ n10_ n11_ n12_
   intro HO120 HA_HO120 BK113 BK132 GW132 GE132 NB0_132 NB132_0 NB113_132 NB132_113 HI0 HK HB
   have hHeld := trivial
   obtain ⟨co21, eo21⟩ := HA_HO120.out
   clear HA_HO120
   subst eo21
   refine norm_ (a' := ?_) ?_ ?_
   rotate_left
   ·simp only [putAll, Act.put, List.setIfInBounds_toArray, List.set_cons_zero, List.set_cons_succ]
    rfl
   refine one_ (i := 1) (N := some 5) spec_l31Out.m71 rfl rfl (one_of HT_.out (by kernel_rfl)) (by decide) (fun K hK => ?_)
   refine goes_ Try.func53 (by kernel_rfl) rfl #[.pointer (some ⟨g, 0, none⟩), .int .i64 3] (by rfl) rfl rfl (by (try simp only [List.map_toArray, List.map_cons, List.map_nil]); first | done | rfl | (simp only [List.length_drop, List.length_take]; rfl)) ?_
   with_reducible refine (spec_l30Rd_pick.calls k g s0_0 s0_1 3 t114 t115 w0 _ ?side1 ?side2 A2.out).mono ?_
   (case side1 => repeat (first | (with_reducible first | exact HI0.out | apply IsS93.alloc | apply IsS93.drewN | apply IsS93.drew | apply IsS93.set_1 | refine IsS93.far ?_ NB0_113.out _ | refine IsS93.far ?_ NB0_132.out _) | exact HI0.out))
   (case side2 => repeat (first | (with_reducible first | exact HB.out | apply yA | apply yN | apply yD | refine yS ?_ (IsS93.ge HI0.out) | refine yS ?_ GE113.out | refine yS ?_ GE132.out) | exact HB.out))
   rintro e w22 ⟨rfl, hi, hb, hk⟩
   refine ⟨_, rfl, ?_⟩
   have n0_ := qM (KeepBut.blk hk (g' := gb113) (o := .cells #[.int .i64 0, .int .i64 0, .int .i64 0, .int .i64 0] 53 (0, 0)) BK113.out NB113_0.out (by simp))
   have n1_ := qM (Kd.R_mono (Kd.R_keep (IsS93.apart (show IsS93 w0 _ g s0_0 s0_1 from by repeat (first | (with_reducible first | exact HI0.out | apply IsS93.alloc | apply IsS93.drewN | apply IsS93.drew | apply IsS93.set_1 | refine IsS93.far ?_ NB0_113.out _ | refine IsS93.far ?_ NB0_132.out _) | exact HI0.out)) HO120.out (by decide)) hk (fun _ h => h.2)) (fun _ h => h.1))
   have n2_ := qM (KeepBut.blk hk (g' := gb132) (o := .cells #[.int .i64 0, .int .i64 0, .int .i64 0, .int .i64 0] 53 (0, 0)) BK132.out NB132_0.out (by simp))
   have n3_ := qM (KeepBut.trans HK.out hk (.inl rfl))
   have n4_ := qM (hb)
   have n5_ := qM (hi)
   clear BK113 HO120 BK132 HK HB HI0
   revert n0_ n1_ n2_ n3_ n4_ n5_
   intro BK113 HO120 BK132 HK HB HI0
   (try clear hb)
   (try clear hb2)
   (try clear hk)
   (try clear hi)
   refine hK.out _ _ trivial (fun hHeld => ?_)
   clear hK K
   refine norm_ (a' := ?_) ?_ ?_
   rotate_left
   ·show Act.put _ (some 5) _ = _
    simp only [Act.put, List.setIfInBounds_toArray, List.set_cons_zero, List.set_cons_succ, i64_w, i32_w]
    rfl
   refine pure_ (i := 2) (N := some 6) (v := ?_) (a' := ?_) spec_l31Out.m66 rfl rfl (any_of HT_.out (by kernel_rfl)) (fun _ _ _ h => h) (Or.inl ⟨by rfl, ?_⟩) ?_ ?_
   rotate_left
   ·intro w'
    go_simp
    with_reducible rfl
   rotate_left
   ·simp only [Act.put, List.setIfInBounds_toArray, List.set_cons_zero, List.set_cons_succ, i64_w, i32_w]
    rfl
   exact norm_ (by first | (simp only [putAll, Act.put, List.setIfInBounds_toArray, List.set_cons_zero, List.set_cons_succ]; done) | (simp only [putAll, Act.put, List.setIfInBounds_toArray, List.set_cons_zero, List.set_cons_succ]; rfl)) (hJ1_5_18 (.slice (some adz_v119) y118.length co21, adz_v119, gb132) _ ⟨HO120.out, ⟨_, rfl⟩, BK113.out, BK132.out, GW132.out, GE132.out, NB0_132.out, NB132_0.out, NB113_132.out, NB132_113.out, HI0.out, HK.out, HB.out⟩)
set_option maxHeartbeats 8000000 in
set_option maxRecDepth 100000 in
theorem spec_l31Out.j1 (k g : Nat) (s0_0 : List Int) (s0_1 : Int) (w0 w : World) (gb113 : Nat) (t114 t115 t116 t117 t121 t122 t124 t125 t129 t130 : Int) (y118 y126 : List Int) (K : Act → World → Prop) (post : Ending → World → Prop) (hC : spec_l31Out.CX k g s0_0 s0_1 w0 w gb113 t114 t115 t116 t117 t121 t122 t124 t125 t129 t130 y118 y126) (hJ1_4 : spec_l31Out.J1_4 k g s0_0 s0_1 w0 w gb113 t114 t115 t116 t117 t121 t122 t124 t125 t129 t130 y118 y126 K post) (hJ1_5 : spec_l31Out.J1_5 k g s0_0 s0_1 w0 w gb113 t114 t115 t116 t117 t121 t122 t124 t125 t129 t130 y118 y126 K post) (hJ1_18 : spec_l31Out.J1_18 k g s0_0 s0_1 w0 w gb113 t114 t115 t116 t117 t121 t122 t124 t125 t129 t130 y118 y126 K post) : spec_l31Out.J1 k g s0_0 s0_1 w0 w gb113 t114 t115 t116 t117 t121 t122 t124 t125 t129 t130 y118 y126 K post := by
 obtain ⟨HW0, A2, A3, Ny118, A4, A7, Ny126, A8, GW113, GE113, NB0_113, NB113_0, c5b0, c6b0, c9b0, c10b0⟩ := hC
 have HT_ := qM spec_l31Out.tabO
 have HW_ := qM spec_l31Out.bits1
 have pi123 : (0 ≤ (t121 : Int)) = True := eq_true (of_decide_eq_true c5b0)
 have qi123 : (t121 < (y118.length : Int)) = True := eq_true (of_decide_eq_true c6b0)
 have pi131 : (0 ≤ (t129 : Int)) = True := eq_true (of_decide_eq_true c9b0)
 have qi131 : (t129 < (y126.length : Int)) = True := eq_true (of_decide_eq_true c10b0)
 unfold spec_l31Out.J1_4 spec_l31Out.FR spec_l31Out.OPS at hJ1_4
 unfold spec_l31Out.J1_5 spec_l31Out.FR spec_l31Out.OPS at hJ1_5
 unfold spec_l31Out.J1_18 spec_l31Out.FR spec_l31Out.OPS at hJ1_18
 unfold spec_l31Out.J1 spec_l31Out.FR spec_l31Out.OPS
 ··skip
   rintro _ w17 ⟨h0_, h1_, h2_, h3_⟩
   have n0_ : Aside0 (w17.heap[gb113]? = some (.cells #[.int .i64 0, .int .i64 0, .int .i64 0, .int .i64 0] 53 (0, 0))) := ⟨h0_⟩
   have n1_ : Aside0 (IsS93 w0 w17 g s0_0 t115) := ⟨h1_⟩
   have n2_ : Aside0 (KeepBut w w17 g none) := ⟨h2_⟩
   have n3_ : Aside0 (Below w0.heap.size w0 w17) := ⟨h3_⟩
   clear h0_ h1_ h2_ h3_
   revert n0_ n1_ n2_ n3_
   intro BK113 HI0 HK HB
   have hHeld := trivial
   refine norm_ (a' := ?_) ?_ ?_
   rotate_left
   ·simp only [putAll, Act.put, List.setIfInBounds_toArray, List.set_cons_zero, List.set_cons_succ]
    rfl
   refine three_ (i := 4) (j := 5) (k := 18) (Ni := some 8) (Nj := some 9) (Nk := some 3) spec_l31Out.m67 spec_l31Out.m68 spec_l31Out.m69 rfl rfl rfl rfl rfl rfl (three_of HT_.out (by kernel_rfl)) (by decide) (by decide) (by decide) (fun K hK => ?_) (fun K hK => ?_) (fun K hK => ?_)
   ·skip
    refine goes_ Try.func53 (by kernel_rfl) rfl #[.pointer (some ⟨g, 0, none⟩), .int .i64 4] (by rfl) rfl rfl (by (try simp only [List.map_toArray, List.map_cons, List.map_nil]); first | done | rfl | (simp only [List.length_drop, List.length_take]; rfl)) ?_
    with_reducible refine (spec_l30Rd_pick.calls k g s0_0 t115 4 t116 t117 w0 _ ?side1 ?side2 A3.out).mono ?_
    (case side1 => repeat (first | (with_reducible first | exact HI0.out | apply IsS93.alloc | apply IsS93.drewN | apply IsS93.drew | apply IsS93.set_1 | refine IsS93.far ?_ NB0_113.out _) | exact HI0.out))
    (case side2 => repeat (first | (with_reducible first | exact HB.out | apply yA | apply yN | apply yD | refine yS ?_ (IsS93.ge HI0.out) | refine yS ?_ GE113.out) | exact HB.out))
    rintro e w18 ⟨rfl, hi, hb, hk⟩
    refine ⟨_, rfl, ?_⟩
    have n0_ := qM (KeepBut.blk hk (g' := gb113) (o := .cells #[.int .i64 0, .int .i64 0, .int .i64 0, .int .i64 0] 53 (0, 0)) BK113.out NB113_0.out (by simp))
    have n1_ := qM (KeepBut.trans HK.out hk (.inl rfl))
    have n2_ := qM (hb)
    have n3_ := qM (hi)
    clear BK113 HK HB HI0
    revert n0_ n1_ n2_ n3_
    intro BK113 HK HB HI0
    (try clear hb)
    (try clear hb2)
    (try clear hk)
    (try clear hi)
    refine hK.out _ _ trivial (fun hHeld => ?_)
    clear hK K
    refine norm_ (a' := ?_) ?_ ?_
    rotate_left
    ·show Act.put _ (some 8) _ = _
     simp only [Act.put, List.setIfInBounds_toArray, List.set_cons_zero, List.set_cons_succ, i64_w, i32_w]
     rfl
    exact norm_ (by first | (simp only [putAll, Act.put, List.setIfInBounds_toArray, List.set_cons_zero, List.set_cons_succ]; done) | (simp only [putAll, Act.put, List.setIfInBounds_toArray, List.set_cons_zero, List.set_cons_succ]; rfl)) (hJ1_4 () _ ⟨BK113.out, HI0.out, HK.out, HB.out⟩)
   ·skip
    refine Kd.R_lit_step (Kd.int .i64) _ 3 ?hg (N := 9) ?hd (xs := ([0, 1, 2, 199, 200] : List Int)) (inner := [.int .i64 0, .int .i64 1, .int .i64 2, .int .i64 199, .int .i64 200]) (ok := fun _ => True) (okp := fun _ => True) ?hr ?hp (fun _ hk => hk) trivial (Below.refl _ _) (Nat.le_refl _) (by simp) ?_; (case hd => rfl); (case hg => rfl); (case hr => first | (go_simp; done) | (go_simp; rfl)); (case hp => exact (Reps.one (show Kd.M (Kd.int .i64) _ _ _ 0 [.int .i64 0] from rfl) (Reps.one (show Kd.M (Kd.int .i64) _ _ _ 1 [.int .i64 1] from rfl) (Reps.one (show Kd.M (Kd.int .i64) _ _ _ 2 [.int .i64 2] from rfl) (Reps.one (show Kd.M (Kd.int .i64) _ _ _ 199 [.int .i64 199] from rfl) (Reps.one (show Kd.M (Kd.int .i64) _ _ _ 200 [.int .i64 200] from rfl) (Reps.none _ _)))))))
    intro v119 w18 ho19 hb hg_ hnew_
    clear hg_ hnew_
    (first | rw [← Ny118.out] at ho19 | (simp only [Int.reduceToNat] at ho19; rw [← Ny118.out] at ho19))
    have n0_ := qM (Kd.R_lower ho19 (keep_size (w := w) (g := g) (row := none) HK.out))
    have n1_ := qM (IsS93.below HI0.out hb)
    have n2_ := qM (blk_below (g := gb113) (o := .cells #[.int .i64 0, .int .i64 0, .int .i64 0, .int .i64 0] 53 (0, 0)) BK113.out hb)
    have n3_ := qM (KeepBut.trans HK.out (KeepBut.of_below hb g none) (.inl rfl))
    have n4_ := qM (below_step HB.out hb)
    clear HI0 BK113 HK HB
    revert n0_ n1_ n2_ n3_ n4_
    intro HO120 HI0 BK113 HK HB
    clear hb ho19
    obtain ⟨Ao20, co20, eo20⟩ := Kd.R_slice HO120.out
    subst eo20
    obtain ⟨ado20, fo20, _⟩ := Kd.at_int (qR HO120.out).2.2 0 (by decide) (by rw [Ny118.out]; simp)
    cases fo20
    refine hK.out _ _ trivial (fun hHeld => ?_)
    clear hK K
    refine norm_ (a' := ?_) ?_ ?_
    rotate_left
    ·show Act.put _ (some 9) _ = _
     simp only [Act.put, List.setIfInBounds_toArray, List.set_cons_zero, List.set_cons_succ, i64_w, i32_w]
     rfl
    exact norm_ (by first | (simp only [putAll, Act.put, List.setIfInBounds_toArray, List.set_cons_zero, List.set_cons_succ]; done) | (simp only [putAll, Act.put, List.setIfInBounds_toArray, List.set_cons_zero, List.set_cons_succ]; rfl)) (hJ1_5 (.slice (some ado20) y118.length co20, ado20) _ ⟨HO120.out, ⟨_, rfl⟩, BK113.out, HI0.out, HK.out, HB.out⟩)
   ·skip
    refine box_step ?hg (N := 3) ?hd (cs := #[.int .i64 0, .int .i64 0, .int .i64 0, .int .i64 0]) (t := 53) ?hr ?_; (case hd => rfl); (case hg => rfl); (case hr => first | (go_simp; done) | (go_simp; rfl))
    intro gb132 hg w18 hbox hb
    have n0_ := qM (IsS93.below HI0.out hb)
    have n1_ := qM (blk_below (g := gb113) (o := .cells #[.int .i64 0, .int .i64 0, .int .i64 0, .int .i64 0] 53 (0, 0)) BK113.out hb)
    have n2_ := qM (KeepBut.trans HK.out (KeepBut.of_below hb g none) (.inl rfl))
    have n3_ := qM (below_step HB.out hb)
    have n4_ := qM (hbox)
    have n5_ := qM ((by rw [hg]; exact (keep_size (w := w) (g := g) (row := none) HK.out) : w.heap.size ≤ gb132))
    have n6_ := qM ((Nat.le_trans HW0.out (by rw [hg]; exact (keep_size (w := w) (g := g) (row := none) HK.out) : w.heap.size ≤ gb132) : w0.heap.size ≤ gb132))
    have n7_ := qM ((by rw [hg]; exact Nat.ne_of_lt (blk_lt (g := gb113) (o := .cells #[.int .i64 0, .int .i64 0, .int .i64 0, .int .i64 0] 53 (0, 0)) BK113.out) : gb113 ≠ gb132))
    have n8_ := qM ((by rw [hg]; exact Nat.ne_of_gt (blk_lt (g := gb113) (o := .cells #[.int .i64 0, .int .i64 0, .int .i64 0, .int .i64 0] 53 (0, 0)) BK113.out) : gb132 ≠ gb113))
    have n9_ := qM ((by rw [hg]; exact Nat.ne_of_lt (IsS93.lt (show IsS93 w0 _ g s0_0 t115 from by repeat (first | (with_reducible first | exact HI0.out | apply IsS93.alloc | apply IsS93.drewN | apply IsS93.drew | apply IsS93.set_1 | refine IsS93.far ?_ NB0_113.out _) | exact HI0.out))) : g ≠ gb132))
    have n10_ := qM ((by rw [hg]; exact Nat.ne_of_gt (IsS93.lt (show IsS93 w0 _ g s0_0 t115 from by repeat (first | (with_reducible first | exact HI0.out | apply IsS93.alloc | apply IsS93.drewN | apply IsS93.drew | apply IsS93.set_1 | refine IsS93.far ?_ NB0_113.out _) | exact HI0.out))) : gb132 ≠ g))
    clear HI0 BK113 HK HB
    revert n0_ n1_ n2_ n3_ n4_ n5_ n6_ n7_ n8_ n9_ n10_
    intro HI0 BK113 HK HB BK132 GW132 GE132 NB113_132 NB132_113 NB0_132 NB132_0
    clear hb hbox hg
    refine hK.out _ _ trivial (fun hHeld => ?_)
    clear hK K
    refine norm_ (a' := ?_) ?_ ?_
    rotate_left
    ·show Act.put _ (some 3) _ = _
     simp only [Act.put, List.setIfInBounds_toArray, List.set_cons_zero, List.set_cons_succ, i64_w, i32_w]
     rfl
    exact norm_ (by first | (simp only [putAll, Act.put, List.setIfInBounds_toArray, List.set_cons_zero, List.set_cons_succ]; done) | (simp only [putAll, Act.put, List.setIfInBounds_toArray, List.set_cons_zero, List.set_cons_succ]; rfl)) (hJ1_18 (gb132) _ ⟨BK113.out, BK132.out, GW132.out, GE132.out, NB0_132.out, NB132_0.out, NB113_132.out, NB132_113.out, HI0.out, HK.out, HB.out⟩)
set_option maxHeartbeats 8000000 in
set_option maxRecDepth 100000 in
theorem spec_l31Out.j5 (k g : Nat) (s0_0 : List Int) (s0_1 : Int) (w0 w : World) (gb113 : Nat) (t114 t115 t116 t117 t121 t122 t124 t125 t129 t130 : Int) (y118 y126 : List Int) (K : Act → World → Prop) (post : Ending → World → Prop) (hC : spec_l31Out.CX k g s0_0 s0_1 w0 w gb113 t114 t115 t116 t117 t121 t122 t124 t125 t129 t130 y118 y126) (hJ1_5 : spec_l31Out.J1_5 k g s0_0 s0_1 w0 w gb113 t114 t115 t116 t117 t121 t122 t124 t125 t129 t130 y118 y126 K post) (hJ5_18 : spec_l31Out.J5_18 k g s0_0 s0_1 w0 w gb113 t114 t115 t116 t117 t121 t122 t124 t125 t129 t130 y118 y126 K post) : spec_l31Out.J5 k g s0_0 s0_1 w0 w gb113 t114 t115 t116 t117 t121 t122 t124 t125 t129 t130 y118 y126 K post := by
 obtain ⟨HW0, A2, A3, Ny118, A4, A7, Ny126, A8, GW113, GE113, NB0_113, NB113_0, c5b0, c6b0, c9b0, c10b0⟩ := hC
 have HT_ := qM spec_l31Out.tabO
 have HW_ := qM spec_l31Out.bits1
 have pi123 : (0 ≤ (t121 : Int)) = True := eq_true (of_decide_eq_true c5b0)
 have qi123 : (t121 < (y118.length : Int)) = True := eq_true (of_decide_eq_true c6b0)
 have pi131 : (0 ≤ (t129 : Int)) = True := eq_true (of_decide_eq_true c9b0)
 have qi131 : (t129 < (y126.length : Int)) = True := eq_true (of_decide_eq_true c10b0)
 unfold spec_l31Out.J1_5 spec_l31Out.FR spec_l31Out.OPS at hJ1_5
 unfold spec_l31Out.J5_18 spec_l31Out.FR spec_l31Out.OPS at hJ5_18
 unfold spec_l31Out.J5 spec_l31Out.FR spec_l31Out.OPS
 ··skip
   rintro ⟨v119, adz_v119⟩ w19 ⟨h0_, h1_, h2_, h3_, h4_, h5_⟩
   have n0_ : Aside0 (Kd.R (Kd.int .i64) 3 w19 w.heap.size (fun _ => True) v119 y118) := ⟨h0_⟩
   have n1_ : Aside0 (∃ c_, (v119 : Value) = .slice (some adz_v119) y118.length c_) := ⟨h1_⟩
   have n2_ : Aside0 (w19.heap[gb113]? = some (.cells #[.int .i64 0, .int .i64 0, .int .i64 0, .int .i64 0] 53 (0, 0))) := ⟨h2_⟩
   have n3_ : Aside0 (IsS93 w0 w19 g s0_0 s0_1) := ⟨h3_⟩
   have n4_ : Aside0 (KeepBut w w19 g none) := ⟨h4_⟩
   have n5_ : Aside0 (Below w0.heap.size w0 w19) := ⟨h5_⟩
   clear h0_ h1_ h2_ h3_ h4_ h5_
   revert n0_ n1_ n2_ n3_ n4_ n5_
   intro HO120 HA_HO120 BK113 HI0 HK HB
   have hHeld := trivial
   obtain ⟨co20, eo20⟩ := HA_HO120.out
   clear HA_HO120
   subst eo20
   refine norm_ (a' := ?_) ?_ ?_
   rotate_left
   ·simp only [putAll, Act.put, List.setIfInBounds_toArray, List.set_cons_zero, List.set_cons_succ]
    rfl
   refine two_ (i := 1) (j := 18) (Ni := some 5) (Nj := some 3) spec_l31Out.m74 spec_l31Out.m70 rfl rfl rfl rfl (two_of HT_.out (by kernel_rfl)) (by decide) (by decide) (fun K hK => ?_) (fun K hK => ?_)
   ·skip
    refine goes_ Try.func53 (by kernel_rfl) rfl #[.pointer (some ⟨g, 0, none⟩), .int .i64 3] (by rfl) rfl rfl (by (try simp only [List.map_toArray, List.map_cons, List.map_nil]); first | done | rfl | (simp only [List.length_drop, List.length_take]; rfl)) ?_
    with_reducible refine (spec_l30Rd_pick.calls k g s0_0 s0_1 3 t114 t115 w0 _ ?side1 ?side2 A2.out).mono ?_
    (case side1 => repeat (first | (with_reducible first | exact HI0.out | apply IsS93.alloc | apply IsS93.drewN | apply IsS93.drew | apply IsS93.set_1 | refine IsS93.far ?_ NB0_113.out _) | exact HI0.out))
    (case side2 => repeat (first | (with_reducible first | exact HB.out | apply yA | apply yN | apply yD | refine yS ?_ (IsS93.ge HI0.out) | refine yS ?_ GE113.out) | exact HB.out))
    rintro e w21 ⟨rfl, hi, hb, hk⟩
    refine ⟨_, rfl, ?_⟩
    have n0_ := qM (KeepBut.blk hk (g' := gb113) (o := .cells #[.int .i64 0, .int .i64 0, .int .i64 0, .int .i64 0] 53 (0, 0)) BK113.out NB113_0.out (by simp))
    have n1_ := qM (Kd.R_mono (Kd.R_keep (IsS93.apart (show IsS93 w0 _ g s0_0 s0_1 from by repeat (first | (with_reducible first | exact HI0.out | apply IsS93.alloc | apply IsS93.drewN | apply IsS93.drew | apply IsS93.set_1 | refine IsS93.far ?_ NB0_113.out _) | exact HI0.out)) HO120.out (by decide)) hk (fun _ h => h.2)) (fun _ h => h.1))
    have n2_ := qM (KeepBut.trans HK.out hk (.inl rfl))
    have n3_ := qM (hb)
    have n4_ := qM (hi)
    clear BK113 HO120 HK HB HI0
    revert n0_ n1_ n2_ n3_ n4_
    intro BK113 HO120 HK HB HI0
    (try clear hb)
    (try clear hb2)
    (try clear hk)
    (try clear hi)
    refine hK.out _ _ trivial (fun hHeld => ?_)
    clear hK K
    refine norm_ (a' := ?_) ?_ ?_
    rotate_left
    ·show Act.put _ (some 5) _ = _
     simp only [Act.put, List.setIfInBounds_toArray, List.set_cons_zero, List.set_cons_succ, i64_w, i32_w]
     rfl
    refine pure_ (i := 2) (N := some 6) (v := ?_) (a' := ?_) spec_l31Out.m68 rfl rfl (any_of HT_.out (by kernel_rfl)) (fun _ _ _ h => h) (Or.inl ⟨by rfl, ?_⟩) ?_ ?_
    rotate_left
    ·intro w'
     go_simp
     with_reducible rfl
    rotate_left
    ·simp only [Act.put, List.setIfInBounds_toArray, List.set_cons_zero, List.set_cons_succ, i64_w, i32_w]
     rfl
    exact norm_ (by first | (simp only [putAll, Act.put, List.setIfInBounds_toArray, List.set_cons_zero, List.set_cons_succ]; done) | (simp only [putAll, Act.put, List.setIfInBounds_toArray, List.set_cons_zero, List.set_cons_succ]; rfl)) (hJ1_5 (.slice (some adz_v119) y118.length co20, adz_v119) _ ⟨HO120.out, ⟨_, rfl⟩, BK113.out, HI0.out, HK.out, HB.out⟩)
   ·skip
    refine box_step ?hg (N := 3) ?hd (cs := #[.int .i64 0, .int .i64 0, .int .i64 0, .int .i64 0]) (t := 53) ?hr ?_; (case hd => rfl); (case hg => rfl); (case hr => first | (go_simp; done) | (go_simp; rfl))
    intro gb132 hg w21 hbox hb
    have n0_ := qM (Kd.R_below HO120.out hb)
    have n1_ := qM (IsS93.below HI0.out hb)
    have n2_ := qM (blk_below (g := gb113) (o := .cells #[.int .i64 0, .int .i64 0, .int .i64 0, .int .i64 0] 53 (0, 0)) BK113.out hb)
    have n3_ := qM (KeepBut.trans HK.out (KeepBut.of_below hb g none) (.inl rfl))
    have n4_ := qM (below_step HB.out hb)
    have n5_ := qM (hbox)
    have n6_ := qM ((by rw [hg]; exact (keep_size (w := w) (g := g) (row := none) HK.out) : w.heap.size ≤ gb132))
    have n7_ := qM ((Nat.le_trans HW0.out (by rw [hg]; exact (keep_size (w := w) (g := g) (row := none) HK.out) : w.heap.size ≤ gb132) : w0.heap.size ≤ gb132))
    have n8_ := qM ((by rw [hg]; exact Nat.ne_of_lt (blk_lt (g := gb113) (o := .cells #[.int .i64 0, .int .i64 0, .int .i64 0, .int .i64 0] 53 (0, 0)) BK113.out) : gb113 ≠ gb132))
    have n9_ := qM ((by rw [hg]; exact Nat.ne_of_gt (blk_lt (g := gb113) (o := .cells #[.int .i64 0, .int .i64 0, .int .i64 0, .int .i64 0] 53 (0, 0)) BK113.out) : gb132 ≠ gb113))
    have n10_ := qM ((by rw [hg]; exact Nat.ne_of_lt (IsS93.lt (show IsS93 w0 _ g s0_0 s0_1 from by repeat (first | (with_reducible first | exact HI0.out | apply IsS93.alloc | apply IsS93.drewN | apply IsS93.drew | apply IsS93.set_1 | refine IsS93.far ?_ NB0_113.out _) | exact HI0.out))) : g ≠ gb132))
    have n11_ := qM ((by rw [hg]; exact Nat.ne_of_gt (IsS93.lt (show IsS93 w0 _ g s0_0 s0_1 from by repeat (first | (with_reducible first | exact HI0.out | apply IsS93.alloc | apply IsS93.drewN | apply IsS93.drew | apply IsS93.set_1 | refine IsS93.far ?_ NB0_113.out _) | exact HI0.out))) : gb132 ≠ g))
    clear HO120 HI0 BK113 HK HB
    revert n0_ n1_ n2_ n3_ n4_ n5_ n6_ n7_ n8_ n9_ n10_ n11_
    intro HO120 HI0 BK113 HK HB BK132 GW132 GE132 NB113_132 NB132_113 NB0_132 NB132_0
    clear hb hbox hg
    refine hK.out _ _ trivial (fun hHeld => ?_)
    clear hK K
    refine norm_ (a' := ?_) ?_ ?_
    rotate_left
    ·show Act.put _ (some 3) _ = _
     simp only [Act.put, List.setIfInBounds_toArray, List.set_cons_zero, List.set_cons_succ, i64_w, i32_w]
     rfl
    exact norm_ (by first | (simp only [putAll, Act.put, List.setIfInBounds_toArray, List.set_cons_zero, List.set_cons_succ]; done) | (simp only [putAll, Act.put, List.setIfInBounds_toArray, List.set_cons_zero, List.set_cons_succ]; rfl)) (hJ5_18 (.slice (some adz_v119) y118.length co20, adz_v119, gb132) _ ⟨HO120.out, ⟨_, rfl⟩, BK113.out, BK132.out, GW132.out, GE132.out, NB0_132.out, NB132_0.out, NB113_132.out, NB132_113.out, HI0.out, HK.out, HB.out⟩)
set_option maxHeartbeats 8000000 in
set_option maxRecDepth 100000 in
theorem spec_l31Out.j18 (k g : Nat) (s0_0 : List Int) (s0_1 : Int) (w0 w : World) (gb113 : Nat) (t114 t115 t116 t117 t121 t122 t124 t125 t129 t130 : Int) (y118 y126 : List Int) (K : Act → World → Prop) (post : Ending → World → Prop) (hC : spec_l31Out.CX k g s0_0 s0_1 w0 w gb113 t114 t115 t116 t117 t121 t122 t124 t125 t129 t130 y118 y126) (hJ1_18 : spec_l31Out.J1_18 k g s0_0 s0_1 w0 w gb113 t114 t115 t116 t117 t121 t122 t124 t125 t129 t130 y118 y126 K post) (hJ5_18 : spec_l31Out.J5_18 k g s0_0 s0_1 w0 w gb113 t114 t115 t116 t117 t121 t122 t124 t125 t129 t130 y118 y126 K post) : spec_l31Out.J18 k g s0_0 s0_1 w0 w gb113 t114 t115 t116 t117 t121 t122 t124 t125 t129 t130 y118 y126 K post := by
 obtain ⟨HW0, A2, A3, Ny118, A4, A7, Ny126, A8, GW113, GE113, NB0_113, NB113_0, c5b0, c6b0, c9b0, c10b0⟩ := hC
 have HT_ := qM spec_l31Out.tabO
 have HW_ := qM spec_l31Out.bits1
 have pi123 : (0 ≤ (t121 : Int)) = True := eq_true (of_decide_eq_true c5b0)
 have qi123 : (t121 < (y118.length : Int)) = True := eq_true (of_decide_eq_true c6b0)
 have pi131 : (0 ≤ (t129 : Int)) = True := eq_true (of_decide_eq_true c9b0)
 have qi131 : (t129 < (y126.length : Int)) = True := eq_true (of_decide_eq_true c10b0)
 unfold spec_l31Out.J1_18 spec_l31Out.FR spec_l31Out.OPS at hJ1_18
 unfold spec_l31Out.J5_18 spec_l31Out.FR spec_l31Out.OPS at hJ5_18
 unfold spec_l31Out.J18 spec_l31Out.FR spec_l31Out.OPS
 ··skip
   rintro gb132 w17 ⟨h0_, h1_, h2_, h3_, h4_, h5_, h6_, h7_, h8_, h9_, h10_⟩
   have n0_ : Aside0 (w17.heap[gb113]? = some (.cells #[.int .i64 0, .int .i64 0, .int .i64 0, .int .i64 0] 53 (0, 0))) := ⟨h0_⟩
   have n1_ : Aside0 (w17.heap[gb132]? = some (.cells #[.int .i64 0, .int .i64 0, .int .i64 0, .int .i64 0] 53 (0, 0))) := ⟨h1_⟩
   have n2_ : Aside0 (w.heap.size ≤ gb132) := ⟨h2_⟩
   have n3_ : Aside0 (w0.heap.size ≤ gb132) := ⟨h3_⟩
   have n4_ : Aside0 (g ≠ gb132) := ⟨h4_⟩
   have n5_ : Aside0 (gb132 ≠ g) := ⟨h5_⟩
   have n6_ : Aside0 (gb113 ≠ gb132) := ⟨h6_⟩
   have n7_ : Aside0 (gb132 ≠ gb113) := ⟨h7_⟩
   have n8_ : Aside0 (IsS93 w0 w17 g s0_0 s0_1) := ⟨h8_⟩
   have n9_ : Aside0 (KeepBut w w17 g none) := ⟨h9_⟩
   have n10_ : Aside0 (Below w0.heap.size w0 w17) := ⟨h10_⟩
   clear h0_ h1_ h2_ h3_ h4_ h5_ h6_ h7_ h8_ h9_ h10_
   revert n0_ n1_ n2_ n3_ n4_ n5_ n6_ n7_ n8_ n9_ n10_
   intro BK113 BK132 GW132 GE132 NB0_132 NB132_0 NB113_132 NB132_113 HI0 HK HB
   have hHeld := trivial
   refine norm_ (a' := ?_) ?_ ?_
   rotate_left
   ·simp only [putAll, Act.put, List.setIfInBounds_toArray, List.set_cons_zero, List.set_cons_succ]
    rfl
   refine two_ (i := 1) (j := 5) (Ni := some 5) (Nj := some 9) spec_l31Out.m76 spec_l31Out.m70 rfl rfl rfl rfl (two_of HT_.out (by kernel_rfl)) (by decide) (by decide) (fun K hK => ?_) (fun K hK => ?_)
   ·skip
    refine goes_ Try.func53 (by kernel_rfl) rfl #[.pointer (some ⟨g, 0, none⟩), .int .i64 3] (by rfl) rfl rfl (by (try simp only [List.map_toArray, List.map_cons, List.map_nil]); first | done | rfl | (simp only [List.length_drop, List.length_take]; rfl)) ?_
    with_reducible refine (spec_l30Rd_pick.calls k g s0_0 s0_1 3 t114 t115 w0 _ ?side1 ?side2 A2.out).mono ?_
    (case side1 => repeat (first | (with_reducible first | exact HI0.out | apply IsS93.alloc | apply IsS93.drewN | apply IsS93.drew | apply IsS93.set_1 | refine IsS93.far ?_ NB0_113.out _ | refine IsS93.far ?_ NB0_132.out _) | exact HI0.out))
    (case side2 => repeat (first | (with_reducible first | exact HB.out | apply yA | apply yN | apply yD | refine yS ?_ (IsS93.ge HI0.out) | refine yS ?_ GE113.out | refine yS ?_ GE132.out) | exact HB.out))
    rintro e w18 ⟨rfl, hi, hb, hk⟩
    refine ⟨_, rfl, ?_⟩
    have n0_ := qM (KeepBut.blk hk (g' := gb113) (o := .cells #[.int .i64 0, .int .i64 0, .int .i64 0, .int .i64 0] 53 (0, 0)) BK113.out NB113_0.out (by simp))
    have n1_ := qM (KeepBut.blk hk (g' := gb132) (o := .cells #[.int .i64 0, .int .i64 0, .int .i64 0, .int .i64 0] 53 (0, 0)) BK132.out NB132_0.out (by simp))
    have n2_ := qM (KeepBut.trans HK.out hk (.inl rfl))
    have n3_ := qM (hb)
    have n4_ := qM (hi)
    clear BK113 BK132 HK HB HI0
    revert n0_ n1_ n2_ n3_ n4_
    intro BK113 BK132 HK HB HI0
    (try clear hb)
    (try clear hb2)
    (try clear hk)
    (try clear hi)
    refine hK.out _ _ trivial (fun hHeld => ?_)
    clear hK K
    refine norm_ (a' := ?_) ?_ ?_
    rotate_left
    ·show Act.put _ (some 5) _ = _
     simp only [Act.put, List.setIfInBounds_toArray, List.set_cons_zero, List.set_cons_succ, i64_w, i32_w]
     rfl
    refine pure_ (i := 2) (N := some 6) (v := ?_) (a' := ?_) spec_l31Out.m69 rfl rfl (any_of HT_.out (by kernel_rfl)) (fun _ _ _ h => h) (Or.inl ⟨by rfl, ?_⟩) ?_ ?_
    rotate_left
    ·intro w'
     go_simp
     with_reducible rfl
    rotate_left
    ·simp only [Act.put, List.setIfInBounds_toArray, List.set_cons_zero, List.set_cons_succ, i64_w, i32_w]
     rfl
    exact norm_ (by first | (simp only [putAll, Act.put, List.setIfInBounds_toArray, List.set_cons_zero, List.set_cons_succ]; done) | (simp only [putAll, Act.put, List.setIfInBounds_toArray, List.set_cons_zero, List.set_cons_succ]; rfl)) (hJ1_18 (gb132) _ ⟨BK113.out, BK132.out, GW132.out, GE132.out, NB0_132.out, NB132_0.out, NB113_132.out, NB132_113.out, HI0.out, HK.out, HB.out⟩)
   ·skip
    refine Kd.R_lit_step (Kd.int .i64) _ 3 ?hg (N := 9) ?hd (xs := ([0, 1, 2, 199, 200] : List Int)) (inner := [.int .i64 0, .int .i64 1, .int .i64 2, .int .i64 199, .int .i64 200]) (ok := fun _ => True) (okp := fun _ => True) ?hr ?hp (fun _ hk => hk) trivial (Below.refl _ _) (Nat.le_refl _) (by simp) ?_; (case hd => rfl); (case hg => rfl); (case hr => first | (go_simp; done) | (go_simp; rfl)); (case hp => exact (Reps.one (show Kd.M (Kd.int .i64) _ _ _ 0 [.int .i64 0] from rfl) (Reps.one (show Kd.M (Kd.int .i64) _ _ _ 1 [.int .i64 1] from rfl) (Reps.one (show Kd.M (Kd.int .i64) _ _ _ 2 [.int .i64 2] from rfl) (Reps.one (show Kd.M (Kd.int .i64) _ _ _ 199 [.int .i64 199] from rfl) (Reps.one (show Kd.M (Kd.int .i64) _ _ _ 200 [.int .i64 200] from rfl) (Reps.none _ _)))))))
    intro v119 w18 ho19 hb hg_ hnew_
    clear hg_ hnew_
    (first | rw [← Ny118.out] at ho19 | (simp only [Int.reduceToNat] at ho19; rw [← Ny118.out] at ho19))
    have n0_ := qM (Kd.R_lower ho19 (keep_size (w := w) (g := g) (row := none) HK.out))
    have n1_ := qM (IsS93.below HI0.out hb)
    have n2_ := qM (blk_below (g := gb113) (o := .cells #[.int .i64 0, .int .i64 0, .int .i64 0, .int .i64 0] 53 (0, 0)) BK113.out hb)
    have n3_ := qM (blk_below (g := gb132) (o := .cells #[.int .i64 0, .int .i64 0, .int .i64 0, .int .i64 0] 53 (0, 0)) BK132.out hb)
    have n4_ := qM (KeepBut.trans HK.out (KeepBut.of_below hb g none) (.inl rfl))
    have n5_ := qM (below_step HB.out hb)
    clear HI0 BK113 BK132 HK HB
    revert n0_ n1_ n2_ n3_ n4_ n5_
    intro HO120 HI0 BK113 BK132 HK HB
    clear hb ho19
    obtain ⟨Ao20, co20, eo20⟩ := Kd.R_slice HO120.out
    subst eo20
    obtain ⟨ado20, fo20, _⟩ := Kd.at_int (qR HO120.out).2.2 0 (by decide) (by rw [Ny118.out]; simp)
    cases fo20
    refine hK.out _ _ trivial (fun hHeld => ?_)
    clear hK K
    refine norm_ (a' := ?_) ?_ ?_
    rotate_left
    ·show Act.put _ (some 9) _ = _
     simp only [Act.put, List.setIfInBounds_toArray, List.set_cons_zero, List.set_cons_succ, i64_w, i32_w]
     rfl
    exact norm_ (by first | (simp only [putAll, Act.put, List.setIfInBounds_toArray, List.set_cons_zero, List.set_cons_succ]; done) | (simp only [putAll, Act.put, List.setIfInBounds_toArray, List.set_cons_zero, List.set_cons_succ]; rfl)) (hJ5_18 (.slice (some ado20) y118.length co20, ado20, gb132) _ ⟨HO120.out, ⟨_, rfl⟩, BK113.out, BK132.out, GW132.out, GE132.out, NB0_132.out, NB132_0.out, NB113_132.out, NB132_113.out, HI0.out, HK.out, HB.out⟩)
end Go.Proofs.Ytaohaebgpbagmaa.PFnOutPeer
