/- Functions that a law reaches: the drawn region of one of them, a theorem for each state of it; turned by a program from what the print laid. -/
import Derived.Test.YtaohaebgpbagmaaPFnOutPeerx3a
namespace Go.Proofs.Ytaohaebgpbagmaa.PFnOutPeer
open Go.RowKit Go.Proofs.YtaohaebgpbagmaaW.PrintWords Go.Proofs.YtaohaebgpbagmaaW.PrintLast Go.Proofs.YtaohaebgpbagmaaW.PrintMore
attribute [local go_sem] max2_int min2_int max_two min_two max_three min_three max_four min_four   -- for this text's walks alone
set_option linter.unusedVariables false
set_option linter.unusedSimpArgs false
open Go.Proofs.YtaohaebgpbagmaaAl
set_option maxHeartbeats 8000000 in
set_option maxRecDepth 100000 in
theorem spec_l31Out.j1_4_5_7_9_11_12_14_16 (k g : Nat) (s0_0 : List Int) (s0_1 : Int) (w0 w : World) (gb113 : Nat) (t114 t115 t116 t117 t121 t122 t124 t125 t129 t130 : Int) (y118 y126 : List Int) (K : Act → World → Prop) (post : Ending → World → Prop) (hC : spec_l31Out.CX k g s0_0 s0_1 w0 w gb113 t114 t115 t116 t117 t121 t122 t124 t125 t129 t130 y118 y126) (hJ1_4_5_7_9_11_12_14_16_18 : spec_l31Out.J1_4_5_7_9_11_12_14_16_18 k g s0_0 s0_1 w0 w gb113 t114 t115 t116 t117 t121 t122 t124 t125 t129 t130 y118 y126 K post) : spec_l31Out.J1_4_5_7_9_11_12_14_16 k g s0_0 s0_1 w0 w gb113 t114 t115 t116 t117 t121 t122 t124 t125 t129 t130 y118 y126 K post := by
 obtain ⟨HW0, A2, A3, Ny118, A4, A7, Ny126, A8, GW113, GE113, NB0_113, NB113_0, c5b0, c6b0, c9b0, c10b0⟩ := hC
 have HT_ := qM spec_l31Out.tabO
 have HW_ := qM spec_l31Out.bits1
 have pi123 : (0 ≤ (t121 : Int)) = True := eq_true (of_decide_eq_true c5b0)
 have qi123 : (t121 < (y118.length : Int)) = True := eq_true (of_decide_eq_true c6b0)
 have pi131 : (0 ≤ (t129 : Int)) = True := eq_true (of_decide_eq_true c9b0)
 have qi131 : (t129 < (y126.length : Int)) = True := eq_true (of_decide_eq_true c10b0)
 unfold spec_l31Out.J1_4_5_7_9_11_12_14_16_18 spec_l31Out.FR spec_l31Out.OPS at hJ1_4_5_7_9_11_12_14_16_18
 unfold spec_l31Out.J1_4_5_7_9_11_12_14_16 spec_l31Out.FR spec_l31Out.OPS
 ··skip
   rintro ⟨v119, adz_v119, v127, adz_v127⟩ w27 ⟨h0_, h1_, h2_, h3_, h4_, h5_, h6_, h7_⟩
   have n0_ : Aside0 (Kd.R (Kd.int .i64) 3 w27 w.heap.size (fun k_ => some k_ ≠ (v127 : Value).ownBlock) v119 y118) := ⟨h0_⟩
   have n1_ : Aside0 (Kd.R (Kd.int .i64) 3 w27 w.heap.size (fun k_ => some k_ ≠ (v119 : Value).ownBlock) v127 y126) := ⟨h1_⟩
   have n2_ : Aside0 (∃ c_, (v119 : Value) = .slice (some adz_v119) y118.length c_) := ⟨h2_⟩
   have n3_ : Aside0 (∃ c_, (v127 : Value) = .slice (some adz_v127) y126.length c_) := ⟨h3_⟩
   have n4_ : Aside0 (w27.heap[gb113]? = some (.cells #[.int .i64 0, .int .i64 0, .int .i64 0, .int .i64 0] 53 (0, 0))) := ⟨h4_⟩
   have n5_ : Aside0 (IsS93 w0 w27 g s0_0 t130) := ⟨h5_⟩
   have n6_ : Aside0 (KeepBut w w27 g none) := ⟨h6_⟩
   have n7_ : Aside0 (Below w0.heap.size w0 w27) := ⟨h7_⟩
   clear h0_ h1_ h2_ h3_ h4_ h5_ h6_ h7_
   revert n0_ n1_ n2_ n3_ n4_ n5_ n6_ n7_
   intro HO120 HO128 HA_HO120 HA_HO128 BK113 HI0 HK HB
   have hHeld := trivial
   obtain ⟨co28, eo28⟩ := HA_HO120.out
   clear HA_HO120
   subst eo28
   obtain ⟨co29, eo29⟩ := HA_HO128.out
   clear HA_HO128
   subst eo29
   refine norm_ (a' := ?_) ?_ ?_
   rotate_left
   ·simp only [putAll, Act.put, List.setIfInBounds_toArray, List.set_cons_zero, List.set_cons_succ]
    rfl
   refine one_ (i := 18) (N := some 3) spec_l31Out.m6 rfl rfl (one_of HT_.out (by kernel_rfl)) (by decide) (fun K hK => ?_)
   refine box_step ?hg (N := 3) ?hd (cs := #[.int .i64 0, .int .i64 0, .int .i64 0, .int .i64 0]) (t := 53) ?hr ?_; (case hd => rfl); (case hg => rfl); (case hr => first | (go_simp; done) | (go_simp; rfl))
   intro gb132 hg w30 hbox hb
   have n0_ := qM (Kd.R_below HO120.out hb)
   have n1_ := qM (Kd.R_below HO128.out hb)
   have n2_ := qM (IsS93.below HI0.out hb)
   have n3_ := qM (blk_below (g := gb113) (o := .cells #[.int .i64 0, .int .i64 0, .int .i64 0, .int .i64 0] 53 (0, 0)) BK113.out hb)
   have n4_ := qM (KeepBut.trans HK.out (KeepBut.of_below hb g none) (.inl rfl))
   have n5_ := qM (below_step HB.out hb)
   have n6_ := qM (hbox)
   have n7_ := qM ((by rw [hg]; exact (keep_size (w := w) (g := g) (row := none) HK.out) : w.heap.size ≤ gb132))
   have n8_ := qM ((Nat.le_trans HW0.out (by rw [hg]; exact (keep_size (w := w) (g := g) (row := none) HK.out) : w.heap.size ≤ gb132) : w0.heap.size ≤ gb132))
   have n9_ := qM ((by rw [hg]; exact Nat.ne_of_lt (blk_lt (g := gb113) (o := .cells #[.int .i64 0, .int .i64 0, .int .i64 0, .int .i64 0] 53 (0, 0)) BK113.out) : gb113 ≠ gb132))
   have n10_ := qM ((by rw [hg]; exact Nat.ne_of_gt (blk_lt (g := gb113) (o := .cells #[.int .i64 0, .int .i64 0, .int .i64 0, .int .i64 0] 53 (0, 0)) BK113.out) : gb132 ≠ gb113))
   have n11_ := qM ((by rw [hg]; exact Nat.ne_of_lt (IsS93.lt (show IsS93 w0 _ g s0_0 t130 from by repeat (first | (with_reducible first | exact HI0.out | apply IsS93.alloc | apply IsS93.drewN | apply IsS93.drew | apply IsS93.set_1 | refine IsS93.far ?_ NB0_113.out _) | exact HI0.out))) : g ≠ gb132))
   have n12_ := qM ((by rw [hg]; exact Nat.ne_of_gt (IsS93.lt (show IsS93 w0 _ g s0_0 t130 from by repeat (first | (with_reducible first | exact HI0.out | apply IsS93.alloc | apply IsS93.drewN | apply IsS93.drew | apply IsS93.set_1 | refine IsS93.far ?_ NB0_113.out _) | exact HI0.out))) : gb132 ≠ g))
   clear HO120 HO128 HI0 BK113 HK HB
   revert n0_ n1_ n2_ n3_ n4_ n5_ n6_ n7_ n8_ n9_ n10_ n11_ n12_
   intro HO120 HO128 HI0 BK113 HK HB BK132 GW132 GE132 NB113_132 NB132_113 NB0_132 NB132_0
   clear hb hbox hg
   refine hK.out _ _ trivial (fun hHeld => ?_)
   clear hK K
   refine norm_ (a' := ?_) ?_ ?_
   rotate_left
   ·show Act.put _ (some 3) _ = _
    simp only [Act.put, List.setIfInBounds_toArray, List.set_cons_zero, List.set_cons_succ, i64_w, i32_w]
    rfl
   exact norm_ (by first | (simp only [putAll, Act.put, List.setIfInBounds_toArray, List.set_cons_zero, List.set_cons_succ]; done) | (simp only [putAll, Act.put, List.setIfInBounds_toArray, List.set_cons_zero, List.set_cons_succ]; rfl)) (hJ1_4_5_7_9_11_12_14_16_18 (.slice (some adz_v119) y118.length co28, adz_v119, .slice (some adz_v127) y126.length co29, adz_v127, gb132) _ ⟨HO120.out, HO128.out, ⟨_, rfl⟩, ⟨_, rfl⟩, BK113.out, BK132.out, GW132.out, GE132.out, NB0_132.out, NB132_0.out, NB113_132.out, NB132_113.out, HI0.out, HK.out, HB.out⟩)
set_option maxHeartbeats 8000000 in
set_option maxRecDepth 100000 in
theorem spec_l31Out.j1_4_5_7_9_11_12_14_18 (k g : Nat) (s0_0 : List Int) (s0_1 : Int) (w0 w : World) (gb113 : Nat) (t114 t115 t116 t117 t121 t122 t124 t125 t129 t130 : Int) (y118 y126 : List Int) (K : Act → World → Prop) (post : Ending → World → Prop) (hC : spec_l31Out.CX k g s0_0 s0_1 w0 w gb113 t114 t115 t116 t117 t121 t122 t124 t125 t129 t130 y118 y126) (hJ1_4_5_7_9_11_12_14_16_18 : spec_l31Out.J1_4_5_7_9_11_12_14_16_18 k g s0_0 s0_1 w0 w gb113 t114 t115 t116 t117 t121 t122 t124 t125 t129 t130 y118 y126 K post) : spec_l31Out.J1_4_5_7_9_11_12_14_18 k g s0_0 s0_1 w0 w gb113 t114 t115 t116 t117 t121 t122 t124 t125 t129 t130 y118 y126 K post := by
 obtain ⟨HW0, A2, A3, Ny118, A4, A7, Ny126, A8, GW113, GE113, NB0_113, NB113_0, c5b0, c6b0, c9b0, c10b0⟩ := hC
 have HT_ := qM spec_l31Out.tabO
 have HW_ := qM spec_l31Out.bits1
 have pi123 : (0 ≤ (t121 : Int)) = True := eq_true (of_decide_eq_true c5b0)
 have qi123 : (t121 < (y118.length : Int)) = True := eq_true (of_decide_eq_true c6b0)
 have pi131 : (0 ≤ (t129 : Int)) = True := eq_true (of_decide_eq_true c9b0)
 have qi131 : (t129 < (y126.length : Int)) = True := eq_true (of_decide_eq_true c10b0)
 unfold spec_l31Out.J1_4_5_7_9_11_12_14_16_18 spec_l31Out.FR spec_l31Out.OPS at hJ1_4_5_7_9_11_12_14_16_18
 unfold spec_l31Out.J1_4_5_7_9_11_12_14_18 spec_l31Out.FR spec_l31Out.OPS
 ··skip
   rintro ⟨v119, adz_v119, v127, adz_v127, gb132⟩ w28 ⟨h0_, h1_, h2_, h3_, h4_, h5_, h6_, h7_, h8_, h9_, h10_, h11_, h12_, h13_, h14_⟩
   have n0_ : Aside0 (Kd.R (Kd.int .i64) 3 w28 w.heap.size (fun k_ => some k_ ≠ (v127 : Value).ownBlock) v119 y118) := ⟨h0_⟩
   have n1_ : Aside0 (Kd.R (Kd.int .i64) 3 w28 w.heap.size (fun k_ => some k_ ≠ (v119 : Value).ownBlock) v127 y126) := ⟨h1_⟩
   have n2_ : Aside0 (∃ c_, (v119 : Value) = .slice (some adz_v119) y118.length c_) := ⟨h2_⟩
   have n3_ : Aside0 (∃ c_, (v127 : Value) = .slice (some adz_v127) y126.length c_) := ⟨h3_⟩
   have n4_ : Aside0 (w28.heap[gb113]? = some (.cells #[.int .i64 0, .int .i64 0, .int .i64 0, .int .i64 0] 53 (0, 0))) := ⟨h4_⟩
   have n5_ : Aside0 (w28.heap[gb132]? = some (.cells #[.int .i64 0, .int .i64 0, .int .i64 0, .int .i64 0] 53 (0, 0))) := ⟨h5_⟩
   have n6_ : Aside0 (w.heap.size ≤ gb132) := ⟨h6_⟩
   have n7_ : Aside0 (w0.heap.size ≤ gb132) := ⟨h7_⟩
   have n8_ : Aside0 (g ≠ gb132) := ⟨h8_⟩
   have n9_ : Aside0 (gb132 ≠ g) := ⟨h9_⟩
   have n10_ : Aside0 (gb113 ≠ gb132) := ⟨h10_⟩
   have n11_ : Aside0 (gb132 ≠ gb113) := ⟨h11_⟩
   have n12_ : Aside0 (IsS93 w0 w28 g s0_0 t130) := ⟨h12_⟩
   have n13_ : Aside0 (KeepBut w w28 g none) := ⟨h13_⟩
   have n14_ : Aside0 (Below w0.heap.size w0 w28) := ⟨h14_⟩
   clear h0_ h1_ h2_ h3_ h4_ h5_ h6_ h7_ h8_ h9_ h10_ h11_ h12_ h13_ h14_
   revert n0_ n1_ n2_ n3_ n4_ n5_ n6_ n7_ n8_ n9_ n10_ n11_ n12_ n13_ n14_
   intro HO120 HO128 HA_HO120 HA_HO128 BK113 BK132 GW132 GE132 NB0_132 NB132_0 NB113_132 NB132_113 HI0 HK HB
   have hHeld := trivial
   obtain ⟨co29, eo29⟩ := HA_HO120.out
   clear HA_HO120
   subst eo29
   obtain ⟨co30, eo30⟩ := HA_HO128.out
   clear HA_HO128
   subst eo30
   refine norm_ (a' := ?_) ?_ ?_
   rotate_left
   ·simp only [putAll, Act.put, List.setIfInBounds_toArray, List.set_cons_zero, List.set_cons_succ]
    rfl
   refine one_ (i := 16) (N := some 20) spec_l31Out.m10 rfl rfl (one_of HT_.out (by kernel_rfl)) (by decide) (fun K hK => ?_)
   (have p131 : 0 ≤ (t129 : Int) := of_decide_eq_true (by first | (with_reducible assumption) | assumption); have q131 : t129 < (y126.length : Int) := of_decide_eq_true (by first | (with_reducible assumption) | assumption); obtain ⟨ad131, e131, hx131_0⟩ := Kd.at_int (qR HO128.out).2.2 t129 p131 q131; obtain rfl : adz_v127 = ad131 := (by injection e131))
   refine value_ (w1 := ?_) (v := ?_) (by rfl) rfl ?_ ?_
   rotate_left 2
   ·go_simp
    constructor
    ·rfl
    ·rfl
   clear hx131_0
   refine hK.out _ _ trivial (fun hHeld => ?_)
   clear hK K
   refine norm_ (a' := ?_) ?_ ?_
   rotate_left
   ·show Act.put _ (some 20) _ = _
    simp only [Act.put, List.setIfInBounds_toArray, List.set_cons_zero, List.set_cons_succ, i64_w, i32_w]
    rfl
   refine pure_ (i := 17) (N := some 21) (v := ?_) (a' := ?_) spec_l31Out.m6 rfl rfl (any_of HT_.out (by kernel_rfl)) (fun _ _ _ h => h) (Or.inl ⟨by rfl, ?_⟩) ?_ ?_
   rotate_left
   ·intro w'
    go_simp
    with_reducible rfl
   rotate_left
   ·simp only [Act.put, List.setIfInBounds_toArray, List.set_cons_zero, List.set_cons_succ, i64_w, i32_w]
    rfl
   exact norm_ (by first | (simp only [putAll, Act.put, List.setIfInBounds_toArray, List.set_cons_zero, List.set_cons_succ]; done) | (simp only [putAll, Act.put, List.setIfInBounds_toArray, List.set_cons_zero, List.set_cons_succ]; rfl)) (hJ1_4_5_7_9_11_12_14_16_18 (.slice (some adz_v119) y118.length co29, adz_v119, .slice (some adz_v127) y126.length co30, adz_v127, gb132) _ ⟨HO120.out, HO128.out, ⟨_, rfl⟩, ⟨_, rfl⟩, BK113.out, BK132.out, GW132.out, GE132.out, NB0_132.out, NB132_0.out, NB113_132.out, NB132_113.out, HI0.out, HK.out, HB.out⟩)
set_option maxHeartbeats 8000000 in
set_option maxRecDepth 100000 in
theorem spec_l31Out.j1_4_5_7_11_12_14_16_18 (k g : Nat) (s0_0 : List Int) (s0_1 : Int) (w0 w : World) (gb113 : Nat) (t114 t115 t116 t117 t121 t122 t124 t125 t129 t130 : Int) (y118 y126 : List Int) (K : Act → World → Prop) (post : Ending → World → Prop) (hC : spec_l31Out.CX k g s0_0 s0_1 w0 w gb113 t114 t115 t116 t117 t121 t122 t124 t125 t129 t130 y118 y126) (hJ1_4_5_7_9_11_12_14_16_18 : spec_l31Out.J1_4_5_7_9_11_12_14_16_18 k g s0_0 s0_1 w0 w gb113 t114 t115 t116 t117 t121 t122 t124 t125 t129 t130 y118 y126 K post) : spec_l31Out.J1_4_5_7_11_12_14_16_18 k g s0_0 s0_1 w0 w gb113 t114 t115 t116 t117 t121 t122 t124 t125 t129 t130 y118 y126 K post := by
 obtain ⟨HW0, A2, A3, Ny118, A4, A7, Ny126, A8, GW113, GE113, NB0_113, NB113_0, c5b0, c6b0, c9b0, c10b0⟩ := hC
 have HT_ := qM spec_l31Out.tabO
 have HW_ := qM spec_l31Out.bits1
 have pi123 : (0 ≤ (t121 : Int)) = True := eq_true (of_decide_eq_true c5b0)
 have qi123 : (t121 < (y118.length : Int)) = True := eq_true (of_decide_eq_true c6b0)
 have pi131 : (0 ≤ (t129 : Int)) = True := eq_true (of_decide_eq_true c9b0)
 have qi131 : (t129 < (y126.length : Int)) = True := eq_true (of_decide_eq_true c10b0)
 unfold spec_l31Out.J1_4_5_7_9_11_12_14_16_18 spec_l31Out.FR spec_l31Out.OPS at hJ1_4_5_7_9_11_12_14_16_18
 unfold spec_l31Out.J1_4_5_7_11_12_14_16_18 spec_l31Out.FR spec_l31Out.OPS
 ··skip
   rintro ⟨v119, adz_v119, v127, adz_v127, gb132⟩ w28 ⟨h0_, h1_, h2_, h3_, h4_, h5_, h6_, h7_, h8_, h9_, h10_, h11_, h12_, h13_, h14_⟩
   have n0_ : Aside0 (Kd.R (Kd.int .i64) 3 w28 w.heap.size (fun k_ => some k_ ≠ (v127 : Value).ownBlock) v119 y118) := ⟨h0_⟩
   have n1_ : Aside0 (Kd.R (Kd.int .i64) 3 w28 w.heap.size (fun k_ => some k_ ≠ (v119 : Value).ownBlock) v127 y126) := ⟨h1_⟩
   have n2_ : Aside0 (∃ c_, (v119 : Value) = .slice (some adz_v119) y118.length c_) := ⟨h2_⟩
   have n3_ : Aside0 (∃ c_, (v127 : Value) = .slice (some adz_v127) y126.length c_) := ⟨h3_⟩
   have n4_ : Aside0 (w28.heap[gb113]? = some (.cells #[.int .i64 0, .int .i64 0, .int .i64 0, .int .i64 0] 53 (0, 0))) := ⟨h4_⟩
   have n5_ : Aside0 (w28.heap[gb132]? = some (.cells #[.int .i64 0, .int .i64 0, .int .i64 0, .int .i64 0] 53 (0, 0))) := ⟨h5_⟩
   have n6_ : Aside0 (w.heap.size ≤ gb132) := ⟨h6_⟩
   have n7_ : Aside0 (w0.heap.size ≤ gb132) := ⟨h7_⟩
   have n8_ : Aside0 (g ≠ gb132) := ⟨h8_⟩
   have n9_ : Aside0 (gb132 ≠ g) := ⟨h9_⟩
   have n10_ : Aside0 (gb113 ≠ gb132) := ⟨h10_⟩
   have n11_ : Aside0 (gb132 ≠ gb113) := ⟨h11_⟩
   have n12_ : Aside0 (IsS93 w0 w28 g s0_0 t130) := ⟨h12_⟩
   have n13_ : Aside0 (KeepBut w w28 g none) := ⟨h13_⟩
   have n14_ : Aside0 (Below w0.heap.size w0 w28) := ⟨h14_⟩
   clear h0_ h1_ h2_ h3_ h4_ h5_ h6_ h7_ h8_ h9_ h10_ h11_ h12_ h13_ h14_
   revert n0_ n1_ n2_ n3_ n4_ n5_ n6_ n7_ n8_ n9_ n10_ n11_ n12_ n13_ n14_
   intro HO120 HO128 HA_HO120 HA_HO128 BK113 BK132 GW132 GE132 NB0_132 NB132_0 NB113_132 NB132_113 HI0 HK HB
   have hHeld := trivial
   obtain ⟨co29, eo29⟩ := HA_HO120.out
   clear HA_HO120
   subst eo29
   obtain ⟨co30, eo30⟩ := HA_HO128.out
   clear HA_HO128
   subst eo30
   refine norm_ (a' := ?_) ?_ ?_
   rotate_left
   ·simp only [putAll, Act.put, List.setIfInBounds_toArray, List.set_cons_zero, List.set_cons_succ]
    rfl
   refine one_ (i := 9) (N := some 13) spec_l31Out.m10 rfl rfl (one_of HT_.out (by kernel_rfl)) (by decide) (fun K hK => ?_)
   (have p123 : 0 ≤ (t121 : Int) := of_decide_eq_true (by first | (with_reducible assumption) | assumption); have q123 : t121 < (y118.length : Int) := of_decide_eq_true (by first | (with_reducible assumption) | assumption); obtain ⟨ad123, e123, hx123_0⟩ := Kd.at_int (qR HO120.out).2.2 t121 p123 q123; obtain rfl : adz_v119 = ad123 := (by injection e123))
   refine value_ (w1 := ?_) (v := ?_) (by rfl) rfl ?_ ?_
   rotate_left 2
   ·go_simp
    constructor
    ·rfl
    ·rfl
   clear hx123_0
   refine hK.out _ _ trivial (fun hHeld => ?_)
   clear hK K
   refine norm_ (a' := ?_) ?_ ?_
   rotate_left
   ·show Act.put _ (some 13) _ = _
    simp only [Act.put, List.setIfInBounds_toArray, List.set_cons_zero, List.set_cons_succ, i64_w, i32_w]
    rfl
   refine pure_ (i := 17) (N := some 21) (v := ?_) (a' := ?_) spec_l31Out.m6 rfl rfl (any_of HT_.out (by kernel_rfl)) (fun _ _ _ h => h) (Or.inl ⟨by rfl, ?_⟩) ?_ ?_
   rotate_left
   ·intro w'
    go_simp
    with_reducible rfl
   rotate_left
   ·simp only [Act.put, List.setIfInBounds_toArray, List.set_cons_zero, List.set_cons_succ, i64_w, i32_w]
    rfl
   exact norm_ (by first | (simp only [putAll, Act.put, List.setIfInBounds_toArray, List.set_cons_zero, List.set_cons_succ]; done) | (simp only [putAll, Act.put, List.setIfInBounds_toArray, List.set_cons_zero, List.set_cons_succ]; rfl)) (hJ1_4_5_7_9_11_12_14_16_18 (.slice (some adz_v119) y118.length co29, adz_v119, .slice (some adz_v127) y126.length co30, adz_v127, gb132) _ ⟨HO120.out, HO128.out, ⟨_, rfl⟩, ⟨_, rfl⟩, BK113.out, BK132.out, GW132.out, GE132.out, NB0_132.out, NB132_0.out, NB113_132.out, NB132_113.out, HI0.out, HK.out, HB.out⟩)
set_option maxHeartbeats 8000000 in
set_option maxRecDepth 100000 in
theorem spec_l31Out.j1_4_5_7_9_11_12_14 (k g : Nat) (s0_0 : List Int) (s0_1 : Int) (w0 w : World) (gb113 : Nat) (t114 t115 t116 t117 t121 t122 t124 t125 t129 t130 : Int) (y118 y126 : List Int) (K : Act → World → Prop) (post : Ending → World → Prop) (hC : spec_l31Out.CX k g s0_0 s0_1 w0 w gb113 t114 t115 t116 t117 t121 t122 t124 t125 t129 t130 y118 y126) (hJ1_4_5_7_9_11_12_14_16 : spec_l31Out.J1_4_5_7_9_11_12_14_16 k g s0_0 s0_1 w0 w gb113 t114 t115 t116 t117 t121 t122 t124 t125 t129 t130 y118 y126 K post) (hJ1_4_5_7_9_11_12_14_18 : spec_l31Out.J1_4_5_7_9_11_12_14_18 k g s0_0 s0_1 w0 w gb113 t114 t115 t116 t117 t121 t122 t124 t125 t129 t130 y118 y126 K post) : spec_l31Out.J1_4_5_7_9_11_12_14 k g s0_0 s0_1 w0 w gb113 t114 t115 t116 t117 t121 t122 t124 t125 t129 t130 y118 y126 K post := by
 obtain ⟨HW0, A2, A3, Ny118, A4, A7, Ny126, A8, GW113, GE113, NB0_113, NB113_0, c5b0, c6b0, c9b0, c10b0⟩ := hC
 have HT_ := qM spec_l31Out.tabO
 have HW_ := qM spec_l31Out.bits1
 have pi123 : (0 ≤ (t121 : Int)) = True := eq_true (of_decide_eq_true c5b0)
 have qi123 : (t121 < (y118.length : Int)) = True := eq_true (of_decide_eq_true c6b0)
 have pi131 : (0 ≤ (t129 : Int)) = True := eq_true (of_decide_eq_true c9b0)
 have qi131 : (t129 < (y126.length : Int)) = True := eq_true (of_decide_eq_true c10b0)
 unfold spec_l31Out.J1_4_5_7_9_11_12_14_16 spec_l31Out.FR spec_l31Out.OPS at hJ1_4_5_7_9_11_12_14_16
 unfold spec_l31Out.J1_4_5_7_9_11_12_14_18 spec_l31Out.FR spec_l31Out.OPS at hJ1_4_5_7_9_11_12_14_18
 unfold spec_l31Out.J1_4_5_7_9_11_12_14 spec_l31Out.FR spec_l31Out.OPS
 ··skip
   rintro ⟨v119, adz_v119, v127, adz_v127⟩ w27 ⟨h0_, h1_, h2_, h3_, h4_, h5_, h6_, h7_⟩
   have n0_ : Aside0 (Kd.R (Kd.int .i64) 3 w27 w.heap.size (fun k_ => some k_ ≠ (v127 : Value).ownBlock) v119 y118) := ⟨h0_⟩
   have n1_ : Aside0 (Kd.R (Kd.int .i64) 3 w27 w.heap.size (fun k_ => some k_ ≠ (v119 : Value).ownBlock) v127 y126) := ⟨h1_⟩
   have n2_ : Aside0 (∃ c_, (v119 : Value) = .slice (some adz_v119) y118.length c_) := ⟨h2_⟩
   have n3_ : Aside0 (∃ c_, (v127 : Value) = .slice (some adz_v127) y126.length c_) := ⟨h3_⟩
   have n4_ : Aside0 (w27.heap[gb113]? = some (.cells #[.int .i64 0, .int .i64 0, .int .i64 0, .int .i64 0] 53 (0, 0))) := ⟨h4_⟩
   have n5_ : Aside0 (IsS93 w0 w27 g s0_0 t130) := ⟨h5_⟩
   have n6_ : Aside0 (KeepBut w w27 g none) := ⟨h6_⟩
   have n7_ : Aside0 (Below w0.heap.size w0 w27) := ⟨h7_⟩
   clear h0_ h1_ h2_ h3_ h4_ h5_ h6_ h7_
   revert n0_ n1_ n2_ n3_ n4_ n5_ n6_ n7_
   intro HO120 HO128 HA_HO120 HA_HO128 BK113 HI0 HK HB
   have hHeld := trivial
   obtain ⟨co28, eo28⟩ := HA_HO120.out
   clear HA_HO120
   subst eo28
   obtain ⟨co29, eo29⟩ := HA_HO128.out
   clear HA_HO128
   subst eo29
   refine norm_ (a' := ?_) ?_ ?_
   rotate_left
   ·simp only [putAll, Act.put, List.setIfInBounds_toArray, List.set_cons_zero, List.set_cons_succ]
    rfl
   refine two_ (i := 16) (j := 18) (Ni := some 20) (Nj := some 3) spec_l31Out.m13 spec_l31Out.m9 rfl rfl rfl rfl (two_of HT_.out (by kernel_rfl)) (by decide) (by decide) (fun K hK => ?_) (fun K hK => ?_)
   ·skip
    (have p131 : 0 ≤ (t129 : Int) := of_decide_eq_true (by first | (with_reducible assumption) | assumption); have q131 : t129 < (y126.length : Int) := of_decide_eq_true (by first | (with_reducible assumption) | assumption); obtain ⟨ad131, e131, hx131_0⟩ := Kd.at_int (qR HO128.out).2.2 t129 p131 q131; obtain rfl : adz_v127 = ad131 := (by injection e131))
    refine value_ (w1 := ?_) (v := ?_) (by rfl) rfl ?_ ?_
    rotate_left 2
    ·go_simp
     constructor
     ·rfl
     ·rfl
    clear hx131_0
    refine hK.out _ _ trivial (fun hHeld => ?_)
    clear hK K
    refine norm_ (a' := ?_) ?_ ?_
    rotate_left
    ·show Act.put _ (some 20) _ = _
     simp only [Act.put, List.setIfInBounds_toArray, List.set_cons_zero, List.set_cons_succ, i64_w, i32_w]
     rfl
    refine pure_ (i := 17) (N := some 21) (v := ?_) (a' := ?_) spec_l31Out.m8 rfl rfl (any_of HT_.out (by kernel_rfl)) (fun _ _ _ h => h) (Or.inl ⟨by rfl, ?_⟩) ?_ ?_
    rotate_left
    ·intro w'
     go_simp
     with_reducible rfl
    rotate_left
    ·simp only [Act.put, List.setIfInBounds_toArray, List.set_cons_zero, List.set_cons_succ, i64_w, i32_w]
     rfl
    exact norm_ (by first | (simp only [putAll, Act.put, List.setIfInBounds_toArray, List.set_cons_zero, List.set_cons_succ]; done) | (simp only [putAll, Act.put, List.setIfInBounds_toArray, List.set_cons_zero, List.set_cons_succ]; rfl)) (hJ1_4_5_7_9_11_12_14_16 (.slice (some adz_v119) y118.length co28, adz_v119, .slice (some adz_v127) y126.length co29, adz_v127) _ ⟨HO120.out, HO128.out, ⟨_, rfl⟩, ⟨_, rfl⟩, BK113.out, HI0.out, HK.out, HB.out⟩)
   ·skip
    refine box_step ?hg (N := 3) ?hd (cs := #[.int .i64 0, .int .i64 0, .int .i64 0, .int .i64 0]) (t := 53) ?hr ?_; (case hd => rfl); (case hg => rfl); (case hr => first | (go_simp; done) | (go_simp; rfl))
    intro gb132 hg w30 hbox hb
    have n0_ := qM (Kd.R_below HO120.out hb)
    have n1_ := qM (Kd.R_below HO128.out hb)
    have n2_ := qM (IsS93.below HI0.out hb)
    have n3_ := qM (blk_below (g := gb113) (o := .cells #[.int .i64 0, .int .i64 0, .int .i64 0, .int .i64 0] 53 (0, 0)) BK113.out hb)
    have n4_ := qM (KeepBut.trans HK.out (KeepBut.of_below hb g none) (.inl rfl))
    have n5_ := qM (below_step HB.out hb)
    have n6_ := qM (hbox)
    have n7_ := qM ((by rw [hg]; exact (keep_size (w := w) (g := g) (row := none) HK.out) : w.heap.size ≤ gb132))
    have n8_ := qM ((Nat.le_trans HW0.out (by rw [hg]; exact (keep_size (w := w) (g := g) (row := none) HK.out) : w.heap.size ≤ gb132) : w0.heap.size ≤ gb132))
    have n9_ := qM ((by rw [hg]; exact Nat.ne_of_lt (blk_lt (g := gb113) (o := .cells #[.int .i64 0, .int .i64 0, .int .i64 0, .int .i64 0] 53 (0, 0)) BK113.out) : gb113 ≠ gb132))
    have n10_ := qM ((by rw [hg]; exact Nat.ne_of_gt (blk_lt (g := gb113) (o := .cells #[.int .i64 0, .int .i64 0, .int .i64 0, .int .i64 0] 53 (0, 0)) BK113.out) : gb132 ≠ gb113))
    have n11_ := qM ((by rw [hg]; exact Nat.ne_of_lt (IsS93.lt (show IsS93 w0 _ g s0_0 t130 from by repeat (first | (with_reducible first | exact HI0.out | apply IsS93.alloc | apply IsS93.drewN | apply IsS93.drew | apply IsS93.set_1 | refine IsS93.far ?_ NB0_113.out _) | exact HI0.out))) : g ≠ gb132))
    have n12_ := qM ((by rw [hg]; exact Nat.ne_of_gt (IsS93.lt (show IsS93 w0 _ g s0_0 t130 from by repeat (first | (with_reducible first | exact HI0.out | apply IsS93.alloc | apply IsS93.drewN | apply IsS93.drew | apply IsS93.set_1 | refine IsS93.far ?_ NB0_113.out _) | exact HI0.out))) : gb132 ≠ g))
    clear HO120 HO128 HI0 BK113 HK HB
    revert n0_ n1_ n2_ n3_ n4_ n5_ n6_ n7_ n8_ n9_ n10_ n11_ n12_
    intro HO120 HO128 HI0 BK113 HK HB BK132 GW132 GE132 NB113_132 NB132_113 NB0_132 NB132_0
    clear hb hbox hg
    refine hK.out _ _ trivial (fun hHeld => ?_)
    clear hK K
    refine norm_ (a' := ?_) ?_ ?_
    rotate_left
    ·show Act.put _ (some 3) _ = _
     simp only [Act.put, List.setIfInBounds_toArray, List.set_cons_zero, List.set_cons_succ, i64_w, i32_w]
     rfl
    exact norm_ (by first | (simp only [putAll, Act.put, List.setIfInBounds_toArray, List.set_cons_zero, List.set_cons_succ]; done) | (simp only [putAll, Act.put, List.setIfInBounds_toArray, List.set_cons_zero, List.set_cons_succ]; rfl)) (hJ1_4_5_7_9_11_12_14_18 (.slice (some adz_v119) y118.length co28, adz_v119, .slice (some adz_v127) y126.length co29, adz_v127, gb132) _ ⟨HO120.out, HO128.out, ⟨_, rfl⟩, ⟨_, rfl⟩, BK113.out, BK132.out, GW132.out, GE132.out, NB0_132.out, NB132_0.out, NB113_132.out, NB132_113.out, HI0.out, HK.out, HB.out⟩)
set_option maxHeartbeats 8000000 in
set_option maxRecDepth 100000 in
theorem spec_l31Out.j1_4_5_7_9_11_12_18 (k g : Nat) (s0_0 : List Int) (s0_1 : Int) (w0 w : World) (gb113 : Nat) (t114 t115 t116 t117 t121 t122 t124 t125 t129 t130 : Int) (y118 y126 : List Int) (K : Act → World → Prop) (post : Ending → World → Prop) (hC : spec_l31Out.CX k g s0_0 s0_1 w0 w gb113 t114 t115 t116 t117 t121 t122 t124 t125 t129 t130 y118 y126) (hJ1_4_5_7_9_11_12_14_18 : spec_l31Out.J1_4_5_7_9_11_12_14_18 k g s0_0 s0_1 w0 w gb113 t114 t115 t116 t117 t121 t122 t124 t125 t129 t130 y118 y126 K post) : spec_l31Out.J1_4_5_7_9_11_12_18 k g s0_0 s0_1 w0 w gb113 t114 t115 t116 t117 t121 t122 t124 t125 t129 t130 y118 y126 K post := by
 obtain ⟨HW0, A2, A3, Ny118, A4, A7, Ny126, A8, GW113, GE113, NB0_113, NB113_0, c5b0, c6b0, c9b0, c10b0⟩ := hC
 have HT_ := qM spec_l31Out.tabO
 have HW_ := qM spec_l31Out.bits1
 have pi123 : (0 ≤ (t121 : Int)) = True := eq_true (of_decide_eq_true c5b0)
 have qi123 : (t121 < (y118.length : Int)) = True := eq_true (of_decide_eq_true c6b0)
 have pi131 : (0 ≤ (t129 : Int)) = True := eq_true (of_decide_eq_true c9b0)
 have qi131 : (t129 < (y126.length : Int)) = True := eq_true (of_decide_eq_true c10b0)
 unfold spec_l31Out.J1_4_5_7_9_11_12_14_18 spec_l31Out.FR spec_l31Out.OPS at hJ1_4_5_7_9_11_12_14_18
 unfold spec_l31Out.J1_4_5_7_9_11_12_18 spec_l31Out.FR spec_l31Out.OPS
 ··skip
   rintro ⟨v119, adz_v119, v127, adz_v127, gb132⟩ w27 ⟨h0_, h1_, h2_, h3_, h4_, h5_, h6_, h7_, h8_, h9_, h10_, h11_, h12_, h13_, h14_⟩
   have n0_ : Aside0 (Kd.R (Kd.int .i64) 3 w27 w.heap.size (fun k_ => some k_ ≠ (v127 : Value).ownBlock) v119 y118) := ⟨h0_⟩
   have n1_ : Aside0 (Kd.R (Kd.int .i64) 3 w27 w.heap.size (fun k_ => some k_ ≠ (v119 : Value).ownBlock) v127 y126) := ⟨h1_⟩
   have n2_ : Aside0 (∃ c_, (v119 : Value) = .slice (some adz_v119) y118.length c_) := ⟨h2_⟩
   have n3_ : Aside0 (∃ c_, (v127 : Value) = .slice (some adz_v127) y126.length c_) := ⟨h3_⟩
   have n4_ : Aside0 (w27.heap[gb113]? = some (.cells #[.int .i64 0, .int .i64 0, .int .i64 0, .int .i64 0] 53 (0, 0))) := ⟨h4_⟩
   have n5_ : Aside0 (w27.heap[gb132]? = some (.cells #[.int .i64 0, .int .i64 0, .int .i64 0, .int .i64 0] 53 (0, 0))) := ⟨h5_⟩
   have n6_ : Aside0 (w.heap.size ≤ gb132) := ⟨h6_⟩
   have n7_ : Aside0 (w0.heap.size ≤ gb132) := ⟨h7_⟩
   have n8_ : Aside0 (g ≠ gb132) := ⟨h8_⟩
   have n9_ : Aside0 (gb132 ≠ g) := ⟨h9_⟩
   have n10_ : Aside0 (gb113 ≠ gb132) := ⟨h10_⟩
   have n11_ : Aside0 (gb132 ≠ gb113) := ⟨h11_⟩
   have n12_ : Aside0 (IsS93 w0 w27 g s0_0 t125) := ⟨h12_⟩
   have n13_ : Aside0 (KeepBut w w27 g none) := ⟨h13_⟩
   have n14_ : Aside0 (Below w0.heap.size w0 w27) := ⟨h14_⟩
   clear h0_ h1_ h2_ h3_ h4_ h5_ h6_ h7_ h8_ h9_ h10_ h11_ h12_ h13_ h14_
   revert n0_ n1_ n2_ n3_ n4_ n5_ n6_ n7_ n8_ n9_ n10_ n11_ n12_ n13_ n14_
   intro HO120 HO128 HA_HO120 HA_HO128 BK113 BK132 GW132 GE132 NB0_132 NB132_0 NB113_132 NB132_113 HI0 HK HB
   have hHeld := trivial
   obtain ⟨co28, eo28⟩ := HA_HO120.out
   clear HA_HO120
   subst eo28
   obtain ⟨co29, eo29⟩ := HA_HO128.out
   clear HA_HO128
   subst eo29
   refine norm_ (a' := ?_) ?_ ?_
   rotate_left
   ·simp only [putAll, Act.put, List.setIfInBounds_toArray, List.set_cons_zero, List.set_cons_succ]
    rfl
   refine one_ (i := 14) (N := some 18) spec_l31Out.m15 rfl rfl (one_of HT_.out (by kernel_rfl)) (by decide) (fun K hK => ?_)
   refine goes_ Try.func53 (by kernel_rfl) rfl #[.pointer (some ⟨g, 0, none⟩), .int .i64 5] (by rfl) rfl rfl (by (try simp only [List.map_toArray, List.map_cons, List.map_nil]); first | done | rfl | (simp only [List.length_drop, List.length_take]; rfl)) ?_
   with_reducible refine (spec_l30Rd_pick.calls k g s0_0 t125 5 t129 t130 w0 _ ?side1 ?side2 A8.out).mono ?_
   (case side1 => repeat (first | (with_reducible first | exact HI0.out | apply IsS93.alloc | apply IsS93.drewN | apply IsS93.drew | apply IsS93.set_1 | refine IsS93.far ?_ NB0_113.out _ | refine IsS93.far ?_ NB0_132.out _) | exact HI0.out))
   (case side2 => repeat (first | (with_reducible first | exact HB.out | apply yA | apply yN | apply yD | refine yS ?_ (IsS93.ge HI0.out) | refine yS ?_ GE113.out | refine yS ?_ GE132.out) | exact HB.out))
   rintro e w30 ⟨rfl, hi, hb, hk⟩
   refine ⟨_, rfl, ?_⟩
   have n0_ := qM (KeepBut.blk hk (g' := gb113) (o := .cells #[.int .i64 0, .int .i64 0, .int .i64 0, .int .i64 0] 53 (0, 0)) BK113.out NB113_0.out (by simp))
   have n1_ := qM (Kd.R_mono (Kd.R_keep (IsS93.apart (show IsS93 w0 _ g s0_0 t125 from by repeat (first | (with_reducible first | exact HI0.out | apply IsS93.alloc | apply IsS93.drewN | apply IsS93.drew | apply IsS93.set_1 | refine IsS93.far ?_ NB0_113.out _ | refine IsS93.far ?_ NB0_132.out _) | exact HI0.out)) HO120.out (by decide)) hk (fun _ h => h.2)) (fun _ h => h.1))
   have n2_ := qM (Kd.R_mono (Kd.R_keep (IsS93.apart (show IsS93 w0 _ g s0_0 t125 from by repeat (first | (with_reducible first | exact HI0.out | apply IsS93.alloc | apply IsS93.drewN | apply IsS93.drew | apply IsS93.set_1 | refine IsS93.far ?_ NB0_113.out _ | refine IsS93.far ?_ NB0_132.out _) | exact HI0.out)) HO128.out (by decide)) hk (fun _ h => h.2)) (fun _ h => h.1))
   have n3_ := qM (KeepBut.blk hk (g' := gb132) (o := .cells #[.int .i64 0, .int .i64 0, .int .i64 0, .int .i64 0] 53 (0, 0)) BK132.out NB132_0.out (by simp))
   have n4_ := qM (KeepBut.trans HK.out hk (.inl rfl))
   have n5_ := qM (hb)
   have n6_ := qM (hi)
   clear BK113 HO120 HO128 BK132 HK HB HI0
   revert n0_ n1_ n2_ n3_ n4_ n5_ n6_
   intro BK113 HO120 HO128 BK132 HK HB HI0
   (try clear hb)
   (try clear hb2)
   (try clear hk)
   (try clear hi)
   refine hK.out _ _ trivial (fun hHeld => ?_)
   clear hK K
   refine norm_ (a' := ?_) ?_ ?_
   rotate_left
   ·show Act.put _ (some 18) _ = _
    simp only [Act.put, List.setIfInBounds_toArray, List.set_cons_zero, List.set_cons_succ, i64_w, i32_w]
    rfl
   refine pure_ (i := 15) (N := some 19) (v := ?_) (a' := ?_) spec_l31Out.m9 rfl rfl (any_of HT_.out (by kernel_rfl)) (fun _ _ _ h => h) (Or.inl ⟨by rfl, ?_⟩) ?_ ?_
   rotate_left
   ·intro w'
    go_simp
    with_reducible rfl
   rotate_left
   ·simp only [Act.put, List.setIfInBounds_toArray, List.set_cons_zero, List.set_cons_succ, i64_w, i32_w]
    rfl
   exact norm_ (by first | (simp only [putAll, Act.put, List.setIfInBounds_toArray, List.set_cons_zero, List.set_cons_succ]; done) | (simp only [putAll, Act.put, List.setIfInBounds_toArray, List.set_cons_zero, List.set_cons_succ]; rfl)) (hJ1_4_5_7_9_11_12_14_18 (.slice (some adz_v119) y118.length co28, adz_v119, .slice (some adz_v127) y126.length co29, adz_v127, gb132) _ ⟨HO120.out, HO128.out, ⟨_, rfl⟩, ⟨_, rfl⟩, BK113.out, BK132.out, GW132.out, GE132.out, NB0_132.out, NB132_0.out, NB113_132.out, NB132_113.out, HI0.out, HK.out, HB.out⟩)
set_option maxHeartbeats 8000000 in
set_option maxRecDepth 100000 in
theorem spec_l31Out.j1_4_5_7_9_11_14_18 (k g : Nat) (s0_0 : List Int) (s0_1 : Int) (w0 w : World) (gb113 : Nat) (t114 t115 t116 t117 t121 t122 t124 t125 t129 t130 : Int) (y118 y126 : List Int) (K : Act → World → Prop) (post : Ending → World → Prop) (hC : spec_l31Out.CX k g s0_0 s0_1 w0 w gb113 t114 t115 t116 t117 t121 t122 t124 t125 t129 t130 y118 y126) (hJ1_4_5_7_9_11_12_14_18 : spec_l31Out.J1_4_5_7_9_11_12_14_18 k g s0_0 s0_1 w0 w gb113 t114 t115 t116 t117 t121 t122 t124 t125 t129 t130 y118 y126 K post) : spec_l31Out.J1_4_5_7_9_11_14_18 k g s0_0 s0_1 w0 w gb113 t114 t115 t116 t117 t121 t122 t124 t125 t129 t130 y118 y126 K post := by
 obtain ⟨HW0, A2, A3, Ny118, A4, A7, Ny126, A8, GW113, GE113, NB0_113, NB113_0, c5b0, c6b0, c9b0, c10b0⟩ := hC
 have HT_ := qM spec_l31Out.tabO
 have HW_ := qM spec_l31Out.bits1
 have pi123 : (0 ≤ (t121 : Int)) = True := eq_true (of_decide_eq_true c5b0)
 have qi123 : (t121 < (y118.length : Int)) = True := eq_true (of_decide_eq_true c6b0)
 have pi131 : (0 ≤ (t129 : Int)) = True := eq_true (of_decide_eq_true c9b0)
 have qi131 : (t129 < (y126.length : Int)) = True := eq_true (of_decide_eq_true c10b0)
 unfold spec_l31Out.J1_4_5_7_9_11_12_14_18 spec_l31Out.FR spec_l31Out.OPS at hJ1_4_5_7_9_11_12_14_18
 unfold spec_l31Out.J1_4_5_7_9_11_14_18 spec_l31Out.FR spec_l31Out.OPS
 ··skip
   rintro ⟨v119, adz_v119, gb132⟩ w25 ⟨h0_, h1_, h2_, h3_, h4_, h5_, h6_, h7_, h8_, h9_, h10_, h11_, h12_⟩
   have n0_ : Aside0 (Kd.R (Kd.int .i64) 3 w25 w.heap.size (fun _ => True) v119 y118) := ⟨h0_⟩
   have n1_ : Aside0 (∃ c_, (v119 : Value) = .slice (some adz_v119) y118.length c_) := ⟨h1_⟩
   have n2_ : Aside0 (w25.heap[gb113]? = some (.cells #[.int .i64 0, .int .i64 0, .int .i64 0, .int .i64 0] 53 (0, 0))) := ⟨h2_⟩
   have n3_ : Aside0 (w25.heap[gb132]? = some (.cells #[.int .i64 0, .int .i64 0, .int .i64 0, .int .i64 0] 53 (0, 0))) := ⟨h3_⟩
   have n4_ : Aside0 (w.heap.size ≤ gb132) := ⟨h4_⟩
   have n5_ : Aside0 (w0.heap.size ≤ gb132) := ⟨h5_⟩
   have n6_ : Aside0 (g ≠ gb132) := ⟨h6_⟩
   have n7_ : Aside0 (gb132 ≠ g) := ⟨h7_⟩
   have n8_ : Aside0 (gb113 ≠ gb132) := ⟨h8_⟩
   have n9_ : Aside0 (gb132 ≠ gb113) := ⟨h9_⟩
   have n10_ : Aside0 (IsS93 w0 w25 g s0_0 t130) := ⟨h10_⟩
   have n11_ : Aside0 (KeepBut w w25 g none) := ⟨h11_⟩
   have n12_ : Aside0 (Below w0.heap.size w0 w25) := ⟨h12_⟩
   clear h0_ h1_ h2_ h3_ h4_ h5_ h6_ h7_ h8_ h9_ h10_ h11_ h12_
   revert n0_ n1_ n2_ n3_ n4_ n5_ n6_ n7_ n8_ n9_ n10_ n11_ n12_
   intro HO120 HA_HO120 BK113 BK132 GW132 GE132 NB0_132 NB132_0 NB113_132 NB132_113 HI0 HK HB
   have hHeld := trivial
   obtain ⟨co26, eo26⟩ := HA_HO120.out
   clear HA_HO120
   subst eo26
   refine norm_ (a' := ?_) ?_ ?_
   rotate_left
   ·simp only [putAll, Act.put, List.setIfInBounds_toArray, List.set_cons_zero, List.set_cons_succ]
    rfl
   refine one_ (i := 12) (N := some 16) spec_l31Out.m15 rfl rfl (one_of HT_.out (by kernel_rfl)) (by decide) (fun K hK => ?_)
   refine Kd.R_lit_step (Kd.int .i64) _ 3 ?hg (N := 16) ?hd (xs := ([0, 1, 14, 15, t124] : List Int)) (inner := [.int .i64 0, .int .i64 1, .int .i64 14, .int .i64 15, .int .i64 t124]) (ok := fun _ => True) (okp := fun _ => True) ?hr ?hp (fun _ hk => hk) trivial (Below.refl _ _) (Nat.le_refl _) (by simp) ?_; (case hd => rfl); (case hg => rfl); (case hr => first | (go_simp; done) | (go_simp; rfl)); (case hp => exact (Reps.one (show Kd.M (Kd.int .i64) _ _ _ 0 [.int .i64 0] from rfl) (Reps.one (show Kd.M (Kd.int .i64) _ _ _ 1 [.int .i64 1] from rfl) (Reps.one (show Kd.M (Kd.int .i64) _ _ _ 14 [.int .i64 14] from rfl) (Reps.one (show Kd.M (Kd.int .i64) _ _ _ 15 [.int .i64 15] from rfl) (Reps.one (show Kd.M (Kd.int .i64) _ _ _ t124 [.int .i64 t124] from rfl) (Reps.none _ _)))))))
   intro v127 w27 ho28 hb hg_ hnew_
   clear hg_ hnew_
   (first | rw [← Ny126.out] at ho28 | (simp only [Int.reduceToNat] at ho28; rw [← Ny126.out] at ho28))
   have n0_ := qM (Kd.R_elder' HO120.out (Kd.R_base ho28) hb)
   have n1_ := qM (Kd.R_lower (Kd.R_new' ho28 (Kd.R_lt HO120.out)) (keep_size (w := w) (g := g) (row := none) HK.out))
   have n2_ := qM (IsS93.below HI0.out hb)
   have n3_ := qM (blk_below (g := gb113) (o := .cells #[.int .i64 0, .int .i64 0, .int .i64 0, .int .i64 0] 53 (0, 0)) BK113.out hb)
   have n4_ := qM (blk_below (g := gb132) (o := .cells #[.int .i64 0, .int .i64 0, .int .i64 0, .int .i64 0] 53 (0, 0)) BK132.out hb)
   have n5_ := qM (KeepBut.trans HK.out (KeepBut.of_below hb g none) (.inl rfl))
   have n6_ := qM (below_step HB.out hb)
   clear HO120 HI0 BK113 BK132 HK HB
   revert n0_ n1_ n2_ n3_ n4_ n5_ n6_
   intro HO120 HO128 HI0 BK113 BK132 HK HB
   clear hb ho28
   obtain ⟨Ao29, co29, eo29⟩ := Kd.R_slice HO128.out
   subst eo29
   obtain ⟨ado29, fo29, _⟩ := Kd.at_int (qR HO128.out).2.2 0 (by decide) (by rw [Ny126.out]; simp)
   cases fo29
   refine hK.out _ _ trivial (fun hHeld => ?_)
   clear hK K
   refine norm_ (a' := ?_) ?_ ?_
   rotate_left
   ·show Act.put _ (some 16) _ = _
    simp only [Act.put, List.setIfInBounds_toArray, List.set_cons_zero, List.set_cons_succ, i64_w, i32_w]
    rfl
   refine pure_ (i := 15) (N := some 19) (v := ?_) (a' := ?_) spec_l31Out.m9 rfl rfl (any_of HT_.out (by kernel_rfl)) (fun _ _ _ h => h) (Or.inl ⟨by rfl, ?_⟩) ?_ ?_
   rotate_left
   ·intro w'
    go_simp
    with_reducible rfl
   rotate_left
   ·simp only [Act.put, List.setIfInBounds_toArray, List.set_cons_zero, List.set_cons_succ, i64_w, i32_w]
    rfl
   exact norm_ (by first | (simp only [putAll, Act.put, List.setIfInBounds_toArray, List.set_cons_zero, List.set_cons_succ]; done) | (simp only [putAll, Act.put, List.setIfInBounds_toArray, List.set_cons_zero, List.set_cons_succ]; rfl)) (hJ1_4_5_7_9_11_12_14_18 (.slice (some adz_v119) y118.length co26, adz_v119, .slice (some ado29) y126.length co29, ado29, gb132) _ ⟨(by (with_reducible repeat (first | apply qA | apply qN | apply qD)); exact Kd.R_mono HO120.out (fun _ hk => hk.2)), (by (with_reducible repeat (first | apply qA | apply qN | apply qD)); exact Kd.R_mono HO128.out (fun _ hk => hk.2)), ⟨_, rfl⟩, ⟨_, rfl⟩, BK113.out, BK132.out, GW132.out, GE132.out, NB0_132.out, NB132_0.out, NB113_132.out, NB132_113.out, HI0.out, HK.out, HB.out⟩)
set_option maxHeartbeats 8000000 in
set_option maxRecDepth 100000 in
theorem spec_l31Out.j1_4_5_7_11_12_14_16 (k g : Nat) (s0_0 : List Int) (s0_1 : Int) (w0 w : World) (gb113 : Nat) (t114 t115 t116 t117 t121 t122 t124 t125 t129 t130 : Int) (y118 y126 : List Int) (K : Act → World → Prop) (post : Ending → World → Prop) (hC : spec_l31Out.CX k g s0_0 s0_1 w0 w gb113 t114 t115 t116 t117 t121 t122 t124 t125 t129 t130 y118 y126) (hJ1_4_5_7_9_11_12_14_16 : spec_l31Out.J1_4_5_7_9_11_12_14_16 k g s0_0 s0_1 w0 w gb113 t114 t115 t116 t117 t121 t122 t124 t125 t129 t130 y118 y126 K post) (hJ1_4_5_7_11_12_14_16_18 : spec_l31Out.J1_4_5_7_11_12_14_16_18 k g s0_0 s0_1 w0 w gb113 t114 t115 t116 t117 t121 t122 t124 t125 t129 t130 y118 y126 K post) : spec_l31Out.J1_4_5_7_11_12_14_16 k g s0_0 s0_1 w0 w gb113 t114 t115 t116 t117 t121 t122 t124 t125 t129 t130 y118 y126 K post := by
 obtain ⟨HW0, A2, A3, Ny118, A4, A7, Ny126, A8, GW113, GE113, NB0_113, NB113_0, c5b0, c6b0, c9b0, c10b0⟩ := hC
 have HT_ := qM spec_l31Out.tabO
 have HW_ := qM spec_l31Out.bits1
 have pi123 : (0 ≤ (t121 : Int)) = True := eq_true (of_decide_eq_true c5b0)
 have qi123 : (t121 < (y118.length : Int)) = True := eq_true (of_decide_eq_true c6b0)
 have pi131 : (0 ≤ (t129 : Int)) = True := eq_true (of_decide_eq_true c9b0)
 have qi131 : (t129 < (y126.length : Int)) = True := eq_true (of_decide_eq_true c10b0)
 unfold spec_l31Out.J1_4_5_7_9_11_12_14_16 spec_l31Out.FR spec_l31Out.OPS at hJ1_4_5_7_9_11_12_14_16
 unfold spec_l31Out.J1_4_5_7_11_12_14_16_18 spec_l31Out.FR spec_l31Out.OPS at hJ1_4_5_7_11_12_14_16_18
 unfold spec_l31Out.J1_4_5_7_11_12_14_16 spec_l31Out.FR spec_l31Out.OPS
 ··skip
   rintro ⟨v119, adz_v119, v127, adz_v127⟩ w27 ⟨h0_, h1_, h2_, h3_, h4_, h5_, h6_, h7_⟩
   have n0_ : Aside0 (Kd.R (Kd.int .i64) 3 w27 w.heap.size (fun k_ => some k_ ≠ (v127 : Value).ownBlock) v119 y118) := ⟨h0_⟩
   have n1_ : Aside0 (Kd.R (Kd.int .i64) 3 w27 w.heap.size (fun k_ => some k_ ≠ (v119 : Value).ownBlock) v127 y126) := ⟨h1_⟩
   have n2_ : Aside0 (∃ c_, (v119 : Value) = .slice (some adz_v119) y118.length c_) := ⟨h2_⟩
   have n3_ : Aside0 (∃ c_, (v127 : Value) = .slice (some adz_v127) y126.length c_) := ⟨h3_⟩
   have n4_ : Aside0 (w27.heap[gb113]? = some (.cells #[.int .i64 0, .int .i64 0, .int .i64 0, .int .i64 0] 53 (0, 0))) := ⟨h4_⟩
   have n5_ : Aside0 (IsS93 w0 w27 g s0_0 t130) := ⟨h5_⟩
   have n6_ : Aside0 (KeepBut w w27 g none) := ⟨h6_⟩
   have n7_ : Aside0 (Below w0.heap.size w0 w27) := ⟨h7_⟩
   clear h0_ h1_ h2_ h3_ h4_ h5_ h6_ h7_
   revert n0_ n1_ n2_ n3_ n4_ n5_ n6_ n7_
   intro HO120 HO128 HA_HO120 HA_HO128 BK113 HI0 HK HB
   have hHeld := trivial
   obtain ⟨co28, eo28⟩ := HA_HO120.out
   clear HA_HO120
   subst eo28
   obtain ⟨co29, eo29⟩ := HA_HO128.out
   clear HA_HO128
   subst eo29
   refine norm_ (a' := ?_) ?_ ?_
   rotate_left
   ·simp only [putAll, Act.put, List.setIfInBounds_toArray, List.set_cons_zero, List.set_cons_succ]
    rfl
   refine two_ (i := 9) (j := 18) (Ni := some 13) (Nj := some 3) spec_l31Out.m13 spec_l31Out.m11 rfl rfl rfl rfl (two_of HT_.out (by kernel_rfl)) (by decide) (by decide) (fun K hK => ?_) (fun K hK => ?_)
   ·skip
    (have p123 : 0 ≤ (t121 : Int) := of_decide_eq_true (by first | (with_reducible assumption) | assumption); have q123 : t121 < (y118.length : Int) := of_decide_eq_true (by first | (with_reducible assumption) | assumption); obtain ⟨ad123, e123, hx123_0⟩ := Kd.at_int (qR HO120.out).2.2 t121 p123 q123; obtain rfl : adz_v119 = ad123 := (by injection e123))
    refine value_ (w1 := ?_) (v := ?_) (by rfl) rfl ?_ ?_
    rotate_left 2
    ·go_simp
     constructor
     ·rfl
     ·rfl
    clear hx123_0
    refine hK.out _ _ trivial (fun hHeld => ?_)
    clear hK K
    refine norm_ (a' := ?_) ?_ ?_
    rotate_left
    ·show Act.put _ (some 13) _ = _
     simp only [Act.put, List.setIfInBounds_toArray, List.set_cons_zero, List.set_cons_succ, i64_w, i32_w]
     rfl
    refine pure_ (i := 17) (N := some 21) (v := ?_) (a' := ?_) spec_l31Out.m8 rfl rfl (any_of HT_.out (by kernel_rfl)) (fun _ _ _ h => h) (Or.inl ⟨by rfl, ?_⟩) ?_ ?_
    rotate_left
    ·intro w'
     go_simp
     with_reducible rfl
    rotate_left
    ·simp only [Act.put, List.setIfInBounds_toArray, List.set_cons_zero, List.set_cons_succ, i64_w, i32_w]
     rfl
    exact norm_ (by first | (simp only [putAll, Act.put, List.setIfInBounds_toArray, List.set_cons_zero, List.set_cons_succ]; done) | (simp only [putAll, Act.put, List.setIfInBounds_toArray, List.set_cons_zero, List.set_cons_succ]; rfl)) (hJ1_4_5_7_9_11_12_14_16 (.slice (some adz_v119) y118.length co28, adz_v119, .slice (some adz_v127) y126.length co29, adz_v127) _ ⟨HO120.out, HO128.out, ⟨_, rfl⟩, ⟨_, rfl⟩, BK113.out, HI0.out, HK.out, HB.out⟩)
   ·skip
    refine box_step ?hg (N := 3) ?hd (cs := #[.int .i64 0, .int .i64 0, .int .i64 0, .int .i64 0]) (t := 53) ?hr ?_; (case hd => rfl); (case hg => rfl); (case hr => first | (go_simp; done) | (go_simp; rfl))
    intro gb132 hg w30 hbox hb
    have n0_ := qM (Kd.R_below HO120.out hb)
    have n1_ := qM (Kd.R_below HO128.out hb)
    have n2_ := qM (IsS93.below HI0.out hb)
    have n3_ := qM (blk_below (g := gb113) (o := .cells #[.int .i64 0, .int .i64 0, .int .i64 0, .int .i64 0] 53 (0, 0)) BK113.out hb)
    have n4_ := qM (KeepBut.trans HK.out (KeepBut.of_below hb g none) (.inl rfl))
    have n5_ := qM (below_step HB.out hb)
    have n6_ := qM (hbox)
    have n7_ := qM ((by rw [hg]; exact (keep_size (w := w) (g := g) (row := none) HK.out) : w.heap.size ≤ gb132))
    have n8_ := qM ((Nat.le_trans HW0.out (by rw [hg]; exact (keep_size (w := w) (g := g) (row := none) HK.out) : w.heap.size ≤ gb132) : w0.heap.size ≤ gb132))
    have n9_ := qM ((by rw [hg]; exact Nat.ne_of_lt (blk_lt (g := gb113) (o := .cells #[.int .i64 0, .int .i64 0, .int .i64 0, .int .i64 0] 53 (0, 0)) BK113.out) : gb113 ≠ gb132))
    have n10_ := qM ((by rw [hg]; exact Nat.ne_of_gt (blk_lt (g := gb113) (o := .cells #[.int .i64 0, .int .i64 0, .int .i64 0, .int .i64 0] 53 (0, 0)) BK113.out) : gb132 ≠ gb113))
    have n11_ := qM ((by rw [hg]; exact Nat.ne_of_lt (IsS93.lt (show IsS93 w0 _ g s0_0 t130 from by repeat (first | (with_reducible first | exact HI0.out | apply IsS93.alloc | apply IsS93.drewN | apply IsS93.drew | apply IsS93.set_1 | refine IsS93.far ?_ NB0_113.out _) | exact HI0.out))) : g ≠ gb132))
    have n12_ := qM ((by rw [hg]; exact Nat.ne_of_gt (IsS93.lt (show IsS93 w0 _ g s0_0 t130 from by repeat (first | (with_reducible first | exact HI0.out | apply IsS93.alloc | apply IsS93.drewN | apply IsS93.drew | apply IsS93.set_1 | refine IsS93.far ?_ NB0_113.out _) | exact HI0.out))) : gb132 ≠ g))
    clear HO120 HO128 HI0 BK113 HK HB
    revert n0_ n1_ n2_ n3_ n4_ n5_ n6_ n7_ n8_ n9_ n10_ n11_ n12_
    intro HO120 HO128 HI0 BK113 HK HB BK132 GW132 GE132 NB113_132 NB132_113 NB0_132 NB132_0
    clear hb hbox hg
    refine hK.out _ _ trivial (fun hHeld => ?_)
    clear hK K
    refine norm_ (a' := ?_) ?_ ?_
    rotate_left
    ·show Act.put _ (some 3) _ = _
     simp only [Act.put, List.setIfInBounds_toArray, List.set_cons_zero, List.set_cons_succ, i64_w, i32_w]
     rfl
    exact norm_ (by first | (simp only [putAll, Act.put, List.setIfInBounds_toArray, List.set_cons_zero, List.set_cons_succ]; done) | (simp only [putAll, Act.put, List.setIfInBounds_toArray, List.set_cons_zero, List.set_cons_succ]; rfl)) (hJ1_4_5_7_11_12_14_16_18 (.slice (some adz_v119) y118.length co28, adz_v119, .slice (some adz_v127) y126.length co29, adz_v127, gb132) _ ⟨HO120.out, HO128.out, ⟨_, rfl⟩, ⟨_, rfl⟩, BK113.out, BK132.out, GW132.out, GE132.out, NB0_132.out, NB132_0.out, NB113_132.out, NB132_113.out, HI0.out, HK.out, HB.out⟩)
set_option maxHeartbeats 8000000 in
set_option maxRecDepth 100000 in
theorem spec_l31Out.j1_4_5_7_11_12_14_18 (k g : Nat) (s0_0 : List Int) (s0_1 : Int) (w0 w : World) (gb113 : Nat) (t114 t115 t116 t117 t121 t122 t124 t125 t129 t130 : Int) (y118 y126 : List Int) (K : Act → World → Prop) (post : Ending → World → Prop) (hC : spec_l31Out.CX k g s0_0 s0_1 w0 w gb113 t114 t115 t116 t117 t121 t122 t124 t125 t129 t130 y118 y126) (hJ1_4_5_7_9_11_12_14_18 : spec_l31Out.J1_4_5_7_9_11_12_14_18 k g s0_0 s0_1 w0 w gb113 t114 t115 t116 t117 t121 t122 t124 t125 t129 t130 y118 y126 K post) (hJ1_4_5_7_11_12_14_16_18 : spec_l31Out.J1_4_5_7_11_12_14_16_18 k g s0_0 s0_1 w0 w gb113 t114 t115 t116 t117 t121 t122 t124 t125 t129 t130 y118 y126 K post) : spec_l31Out.J1_4_5_7_11_12_14_18 k g s0_0 s0_1 w0 w gb113 t114 t115 t116 t117 t121 t122 t124 t125 t129 t130 y118 y126 K post := by
 obtain ⟨HW0, A2, A3, Ny118, A4, A7, Ny126, A8, GW113, GE113, NB0_113, NB113_0, c5b0, c6b0, c9b0, c10b0⟩ := hC
 have HT_ := qM spec_l31Out.tabO
 have HW_ := qM spec_l31Out.bits1
 have pi123 : (0 ≤ (t121 : Int)) = True := eq_true (of_decide_eq_true c5b0)
 have qi123 : (t121 < (y118.length : Int)) = True := eq_true (of_decide_eq_true c6b0)
 have pi131 : (0 ≤ (t129 : Int)) = True := eq_true (of_decide_eq_true c9b0)
 have qi131 : (t129 < (y126.length : Int)) = True := eq_true (of_decide_eq_true c10b0)
 unfold spec_l31Out.J1_4_5_7_9_11_12_14_18 spec_l31Out.FR spec_l31Out.OPS at hJ1_4_5_7_9_11_12_14_18
 unfold spec_l31Out.J1_4_5_7_11_12_14_16_18 spec_l31Out.FR spec_l31Out.OPS at hJ1_4_5_7_11_12_14_16_18
 unfold spec_l31Out.J1_4_5_7_11_12_14_18 spec_l31Out.FR spec_l31Out.OPS
 ··skip
   rintro ⟨v119, adz_v119, v127, adz_v127, gb132⟩ w28 ⟨h0_, h1_, h2_, h3_, h4_, h5_, h6_, h7_, h8_, h9_, h10_, h11_, h12_, h13_, h14_⟩
   have n0_ : Aside0 (Kd.R (Kd.int .i64) 3 w28 w.heap.size (fun k_ => some k_ ≠ (v127 : Value).ownBlock) v119 y118) := ⟨h0_⟩
   have n1_ : Aside0 (Kd.R (Kd.int .i64) 3 w28 w.heap.size (fun k_ => some k_ ≠ (v119 : Value).ownBlock) v127 y126) := ⟨h1_⟩
   have n2_ : Aside0 (∃ c_, (v119 : Value) = .slice (some adz_v119) y118.length c_) := ⟨h2_⟩
   have n3_ : Aside0 (∃ c_, (v127 : Value) = .slice (some adz_v127) y126.length c_) := ⟨h3_⟩
   have n4_ : Aside0 (w28.heap[gb113]? = some (.cells #[.int .i64 0, .int .i64 0, .int .i64 0, .int .i64 0] 53 (0, 0))) := ⟨h4_⟩
   have n5_ : Aside0 (w28.heap[gb132]? = some (.cells #[.int .i64 0, .int .i64 0, .int .i64 0, .int .i64 0] 53 (0, 0))) := ⟨h5_⟩
   have n6_ : Aside0 (w.heap.size ≤ gb132) := ⟨h6_⟩
   have n7_ : Aside0 (w0.heap.size ≤ gb132) := ⟨h7_⟩
   have n8_ : Aside0 (g ≠ gb132) := ⟨h8_⟩
   have n9_ : Aside0 (gb132 ≠ g) := ⟨h9_⟩
   have n10_ : Aside0 (gb113 ≠ gb132) := ⟨h10_⟩
   have n11_ : Aside0 (gb132 ≠ gb113) := ⟨h11_⟩
   have n12_ : Aside0 (IsS93 w0 w28 g s0_0 t130) := ⟨h12_⟩
   have n13_ : Aside0 (KeepBut w w28 g none) := ⟨h13_⟩
   have n14_ : Aside0 (Below w0.heap.size w0 w28) := ⟨h14_⟩
   clear h0_ h1_ h2_ h3_ h4_ h5_ h6_ h7_ h8_ h9_ h10_ h11_ h12_ h13_ h14_
   revert n0_ n1_ n2_ n3_ n4_ n5_ n6_ n7_ n8_ n9_ n10_ n11_ n12_ n13_ n14_
   intro HO120 HO128 HA_HO120 HA_HO128 BK113 BK132 GW132 GE132 NB0_132 NB132_0 NB113_132 NB132_113 HI0 HK HB
   have hHeld := trivial
   obtain ⟨co29, eo29⟩ := HA_HO120.out
   clear HA_HO120
   subst eo29
   obtain ⟨co30, eo30⟩ := HA_HO128.out
   clear HA_HO128
   subst eo30
   refine norm_ (a' := ?_) ?_ ?_
   rotate_left
   ·simp only [putAll, Act.put, List.setIfInBounds_toArray, List.set_cons_zero, List.set_cons_succ]
    rfl
   refine two_ (i := 9) (j := 16) (Ni := some 13) (Nj := some 20) spec_l31Out.m9 spec_l31Out.m11 rfl rfl rfl rfl (two_of HT_.out (by kernel_rfl)) (by decide) (by decide) (fun K hK => ?_) (fun K hK => ?_)
   ·skip
    (have p123 : 0 ≤ (t121 : Int) := of_decide_eq_true (by first | (with_reducible assumption) | assumption); have q123 : t121 < (y118.length : Int) := of_decide_eq_true (by first | (with_reducible assumption) | assumption); obtain ⟨ad123, e123, hx123_0⟩ := Kd.at_int (qR HO120.out).2.2 t121 p123 q123; obtain rfl : adz_v119 = ad123 := (by injection e123))
    refine value_ (w1 := ?_) (v := ?_) (by rfl) rfl ?_ ?_
    rotate_left 2
    ·go_simp
     constructor
     ·rfl
     ·rfl
    clear hx123_0
    refine hK.out _ _ trivial (fun hHeld => ?_)
    clear hK K
    refine norm_ (a' := ?_) ?_ ?_
    rotate_left
    ·show Act.put _ (some 13) _ = _
     simp only [Act.put, List.setIfInBounds_toArray, List.set_cons_zero, List.set_cons_succ, i64_w, i32_w]
     rfl
    exact norm_ (by first | (simp only [putAll, Act.put, List.setIfInBounds_toArray, List.set_cons_zero, List.set_cons_succ]; done) | (simp only [putAll, Act.put, List.setIfInBounds_toArray, List.set_cons_zero, List.set_cons_succ]; rfl)) (hJ1_4_5_7_9_11_12_14_18 (.slice (some adz_v119) y118.length co29, adz_v119, .slice (some adz_v127) y126.length co30, adz_v127, gb132) _ ⟨HO120.out, HO128.out, ⟨_, rfl⟩, ⟨_, rfl⟩, BK113.out, BK132.out, GW132.out, GE132.out, NB0_132.out, NB132_0.out, NB113_132.out, NB132_113.out, HI0.out, HK.out, HB.out⟩)
   ·skip
    (have p131 : 0 ≤ (t129 : Int) := of_decide_eq_true (by first | (with_reducible assumption) | assumption); have q131 : t129 < (y126.length : Int) := of_decide_eq_true (by first | (with_reducible assumption) | assumption); obtain ⟨ad131, e131, hx131_0⟩ := Kd.at_int (qR HO128.out).2.2 t129 p131 q131; obtain rfl : adz_v127 = ad131 := (by injection e131))
    refine value_ (w1 := ?_) (v := ?_) (by rfl) rfl ?_ ?_
    rotate_left 2
    ·go_simp
     constructor
     ·rfl
     ·rfl
    clear hx131_0
    refine hK.out _ _ trivial (fun hHeld => ?_)
    clear hK K
    refine norm_ (a' := ?_) ?_ ?_
    rotate_left
    ·show Act.put _ (some 20) _ = _
     simp only [Act.put, List.setIfInBounds_toArray, List.set_cons_zero, List.set_cons_succ, i64_w, i32_w]
     rfl
    exact norm_ (by first | (simp only [putAll, Act.put, List.setIfInBounds_toArray, List.set_cons_zero, List.set_cons_succ]; done) | (simp only [putAll, Act.put, List.setIfInBounds_toArray, List.set_cons_zero, List.set_cons_succ]; rfl)) (hJ1_4_5_7_11_12_14_16_18 (.slice (some adz_v119) y118.length co29, adz_v119, .slice (some adz_v127) y126.length co30, adz_v127, gb132) _ ⟨HO120.out, HO128.out, ⟨_, rfl⟩, ⟨_, rfl⟩, BK113.out, BK132.out, GW132.out, GE132.out, NB0_132.out, NB132_0.out, NB113_132.out, NB132_113.out, HI0.out, HK.out, HB.out⟩)
set_option maxHeartbeats 8000000 in
set_option maxRecDepth 100000 in
theorem spec_l31Out.j1_4_7_11_12_14_16_18 (k g : Nat) (s0_0 : List Int) (s0_1 : Int) (w0 w : World) (gb113 : Nat) (t114 t115 t116 t117 t121 t122 t124 t125 t129 t130 : Int) (y118 y126 : List Int) (K : Act → World → Prop) (post : Ending → World → Prop) (hC : spec_l31Out.CX k g s0_0 s0_1 w0 w gb113 t114 t115 t116 t117 t121 t122 t124 t125 t129 t130 y118 y126) (hJ1_4_5_7_11_12_14_16_18 : spec_l31Out.J1_4_5_7_11_12_14_16_18 k g s0_0 s0_1 w0 w gb113 t114 t115 t116 t117 t121 t122 t124 t125 t129 t130 y118 y126 K post) : spec_l31Out.J1_4_7_11_12_14_16_18 k g s0_0 s0_1 w0 w gb113 t114 t115 t116 t117 t121 t122 t124 t125 t129 t130 y118 y126 K post := by
 obtain ⟨HW0, A2, A3, Ny118, A4, A7, Ny126, A8, GW113, GE113, NB0_113, NB113_0, c5b0, c6b0, c9b0, c10b0⟩ := hC
 have HT_ := qM spec_l31Out.tabO
 have HW_ := qM spec_l31Out.bits1
 have pi123 : (0 ≤ (t121 : Int)) = True := eq_true (of_decide_eq_true c5b0)
 have qi123 : (t121 < (y118.length : Int)) = True := eq_true (of_decide_eq_true c6b0)
 have pi131 : (0 ≤ (t129 : Int)) = True := eq_true (of_decide_eq_true c9b0)
 have qi131 : (t129 < (y126.length : Int)) = True := eq_true (of_decide_eq_true c10b0)
 unfold spec_l31Out.J1_4_5_7_11_12_14_16_18 spec_l31Out.FR spec_l31Out.OPS at hJ1_4_5_7_11_12_14_16_18
 unfold spec_l31Out.J1_4_7_11_12_14_16_18 spec_l31Out.FR spec_l31Out.OPS
 ··skip
   rintro ⟨v127, adz_v127, gb132⟩ w25 ⟨h0_, h1_, h2_, h3_, h4_, h5_, h6_, h7_, h8_, h9_, h10_, h11_, h12_⟩
   have n0_ : Aside0 (Kd.R (Kd.int .i64) 3 w25 w.heap.size (fun _ => True) v127 y126) := ⟨h0_⟩
   have n1_ : Aside0 (∃ c_, (v127 : Value) = .slice (some adz_v127) y126.length c_) := ⟨h1_⟩
   have n2_ : Aside0 (w25.heap[gb113]? = some (.cells #[.int .i64 0, .int .i64 0, .int .i64 0, .int .i64 0] 53 (0, 0))) := ⟨h2_⟩
   have n3_ : Aside0 (w25.heap[gb132]? = some (.cells #[.int .i64 0, .int .i64 0, .int .i64 0, .int .i64 0] 53 (0, 0))) := ⟨h3_⟩
   have n4_ : Aside0 (w.heap.size ≤ gb132) := ⟨h4_⟩
   have n5_ : Aside0 (w0.heap.size ≤ gb132) := ⟨h5_⟩
   have n6_ : Aside0 (g ≠ gb132) := ⟨h6_⟩
   have n7_ : Aside0 (gb132 ≠ g) := ⟨h7_⟩
   have n8_ : Aside0 (gb113 ≠ gb132) := ⟨h8_⟩
   have n9_ : Aside0 (gb132 ≠ gb113) := ⟨h9_⟩
   have n10_ : Aside0 (IsS93 w0 w25 g s0_0 t130) := ⟨h10_⟩
   have n11_ : Aside0 (KeepBut w w25 g none) := ⟨h11_⟩
   have n12_ : Aside0 (Below w0.heap.size w0 w25) := ⟨h12_⟩
   clear h0_ h1_ h2_ h3_ h4_ h5_ h6_ h7_ h8_ h9_ h10_ h11_ h12_
   revert n0_ n1_ n2_ n3_ n4_ n5_ n6_ n7_ n8_ n9_ n10_ n11_ n12_
   intro HO128 HA_HO128 BK113 BK132 GW132 GE132 NB0_132 NB132_0 NB113_132 NB132_113 HI0 HK HB
   have hHeld := trivial
   obtain ⟨co26, eo26⟩ := HA_HO128.out
   clear HA_HO128
   subst eo26
   refine norm_ (a' := ?_) ?_ ?_
   rotate_left
   ·simp only [putAll, Act.put, List.setIfInBounds_toArray, List.set_cons_zero, List.set_cons_succ]
    rfl
   refine one_ (i := 5) (N := some 9) spec_l31Out.m20 rfl rfl (one_of HT_.out (by kernel_rfl)) (by decide) (fun K hK => ?_)
   refine Kd.R_lit_step (Kd.int .i64) _ 3 ?hg (N := 9) ?hd (xs := ([0, 1, 2, 199, 200] : List Int)) (inner := [.int .i64 0, .int .i64 1, .int .i64 2, .int .i64 199, .int .i64 200]) (ok := fun _ => True) (okp := fun _ => True) ?hr ?hp (fun _ hk => hk) trivial (Below.refl _ _) (Nat.le_refl _) (by simp) ?_; (case hd => rfl); (case hg => rfl); (case hr => first | (go_simp; done) | (go_simp; rfl)); (case hp => exact (Reps.one (show Kd.M (Kd.int .i64) _ _ _ 0 [.int .i64 0] from rfl) (Reps.one (show Kd.M (Kd.int .i64) _ _ _ 1 [.int .i64 1] from rfl) (Reps.one (show Kd.M (Kd.int .i64) _ _ _ 2 [.int .i64 2] from rfl) (Reps.one (show Kd.M (Kd.int .i64) _ _ _ 199 [.int .i64 199] from rfl) (Reps.one (show Kd.M (Kd.int .i64) _ _ _ 200 [.int .i64 200] from rfl) (Reps.none _ _)))))))
   intro v119 w27 ho28 hb hg_ hnew_
   clear hg_ hnew_
   (first | rw [← Ny118.out] at ho28 | (simp only [Int.reduceToNat] at ho28; rw [← Ny118.out] at ho28))
   have n0_ := qM (Kd.R_elder' HO128.out (Kd.R_base ho28) hb)
   have n1_ := qM (Kd.R_lower (Kd.R_new' ho28 (Kd.R_lt HO128.out)) (keep_size (w := w) (g := g) (row := none) HK.out))
   have n2_ := qM (IsS93.below HI0.out hb)
   have n3_ := qM (blk_below (g := gb113) (o := .cells #[.int .i64 0, .int .i64 0, .int .i64 0, .int .i64 0] 53 (0, 0)) BK113.out hb)
   have n4_ := qM (blk_below (g := gb132) (o := .cells #[.int .i64 0, .int .i64 0, .int .i64 0, .int .i64 0] 53 (0, 0)) BK132.out hb)
   have n5_ := qM (KeepBut.trans HK.out (KeepBut.of_below hb g none) (.inl rfl))
   have n6_ := qM (below_step HB.out hb)
   clear HO128 HI0 BK113 BK132 HK HB
   revert n0_ n1_ n2_ n3_ n4_ n5_ n6_
   intro HO128 HO120 HI0 BK113 BK132 HK HB
   clear hb ho28
   obtain ⟨Ao29, co29, eo29⟩ := Kd.R_slice HO120.out
   subst eo29
   obtain ⟨ado29, fo29, _⟩ := Kd.at_int (qR HO120.out).2.2 0 (by decide) (by rw [Ny118.out]; simp)
   cases fo29
   refine hK.out _ _ trivial (fun hHeld => ?_)
   clear hK K
   refine norm_ (a' := ?_) ?_ ?_
   rotate_left
   ·show Act.put _ (some 9) _ = _
    simp only [Act.put, List.setIfInBounds_toArray, List.set_cons_zero, List.set_cons_succ, i64_w, i32_w]
    rfl
   refine pure_ (i := 8) (N := some 12) (v := ?_) (a' := ?_) spec_l31Out.m11 rfl rfl (any_of HT_.out (by kernel_rfl)) (fun _ _ _ h => h) (Or.inl ⟨by rfl, ?_⟩) ?_ ?_
   rotate_left
   ·intro w'
    go_simp
    with_reducible rfl
   rotate_left
   ·simp only [Act.put, List.setIfInBounds_toArray, List.set_cons_zero, List.set_cons_succ, i64_w, i32_w]
    rfl
   exact norm_ (by first | (simp only [putAll, Act.put, List.setIfInBounds_toArray, List.set_cons_zero, List.set_cons_succ]; done) | (simp only [putAll, Act.put, List.setIfInBounds_toArray, List.set_cons_zero, List.set_cons_succ]; rfl)) (hJ1_4_5_7_11_12_14_16_18 (.slice (some ado29) y118.length co29, ado29, .slice (some adz_v127) y126.length co26, adz_v127, gb132) _ ⟨(by (with_reducible repeat (first | apply qA | apply qN | apply qD)); exact Kd.R_mono HO120.out (fun _ hk => hk.2)), (by (with_reducible repeat (first | apply qA | apply qN | apply qD)); exact Kd.R_mono HO128.out (fun _ hk => hk.2)), ⟨_, rfl⟩, ⟨_, rfl⟩, BK113.out, BK132.out, GW132.out, GE132.out, NB0_132.out, NB132_0.out, NB113_132.out, NB132_113.out, HI0.out, HK.out, HB.out⟩)
set_option maxHeartbeats 8000000 in
set_option maxRecDepth 100000 in
theorem spec_l31Out.j1_4_5_7_9_11_12 (k g : Nat) (s0_0 : List Int) (s0_1 : Int) (w0 w : World) (gb113 : Nat) (t114 t115 t116 t117 t121 t122 t124 t125 t129 t130 : Int) (y118 y126 : List Int) (K : Act → World → Prop) (post : Ending → World → Prop) (hC : spec_l31Out.CX k g s0_0 s0_1 w0 w gb113 t114 t115 t116 t117 t121 t122 t124 t125 t129 t130 y118 y126) (hJ1_4_5_7_9_11_12_14 : spec_l31Out.J1_4_5_7_9_11_12_14 k g s0_0 s0_1 w0 w gb113 t114 t115 t116 t117 t121 t122 t124 t125 t129 t130 y118 y126 K post) (hJ1_4_5_7_9_11_12_18 : spec_l31Out.J1_4_5_7_9_11_12_18 k g s0_0 s0_1 w0 w gb113 t114 t115 t116 t117 t121 t122 t124 t125 t129 t130 y118 y126 K post) : spec_l31Out.J1_4_5_7_9_11_12 k g s0_0 s0_1 w0 w gb113 t114 t115 t116 t117 t121 t122 t124 t125 t129 t130 y118 y126 K post := by
 obtain ⟨HW0, A2, A3, Ny118, A4, A7, Ny126, A8, GW113, GE113, NB0_113, NB113_0, c5b0, c6b0, c9b0, c10b0⟩ := hC
 have HT_ := qM spec_l31Out.tabO
 have HW_ := qM spec_l31Out.bits1
 have pi123 : (0 ≤ (t121 : Int)) = True := eq_true (of_decide_eq_true c5b0)
 have qi123 : (t121 < (y118.length : Int)) = True := eq_true (of_decide_eq_true c6b0)
 have pi131 : (0 ≤ (t129 : Int)) = True := eq_true (of_decide_eq_true c9b0)
 have qi131 : (t129 < (y126.length : Int)) = True := eq_true (of_decide_eq_true c10b0)
 unfold spec_l31Out.J1_4_5_7_9_11_12_14 spec_l31Out.FR spec_l31Out.OPS at hJ1_4_5_7_9_11_12_14
 unfold spec_l31Out.J1_4_5_7_9_11_12_18 spec_l31Out.FR spec_l31Out.OPS at hJ1_4_5_7_9_11_12_18
 unfold spec_l31Out.J1_4_5_7_9_11_12 spec_l31Out.FR spec_l31Out.OPS
 ··skip
   rintro ⟨v119, adz_v119, v127, adz_v127⟩ w26 ⟨h0_, h1_, h2_, h3_, h4_, h5_, h6_, h7_⟩
   have n0_ : Aside0 (Kd.R (Kd.int .i64) 3 w26 w.heap.size (fun k_ => some k_ ≠ (v127 : Value).ownBlock) v119 y118) := ⟨h0_⟩
   have n1_ : Aside0 (Kd.R (Kd.int .i64) 3 w26 w.heap.size (fun k_ => some k_ ≠ (v119 : Value).ownBlock) v127 y126) := ⟨h1_⟩
   have n2_ : Aside0 (∃ c_, (v119 : Value) = .slice (some adz_v119) y118.length c_) := ⟨h2_⟩
   have n3_ : Aside0 (∃ c_, (v127 : Value) = .slice (some adz_v127) y126.length c_) := ⟨h3_⟩
   have n4_ : Aside0 (w26.heap[gb113]? = some (.cells #[.int .i64 0, .int .i64 0, .int .i64 0, .int .i64 0] 53 (0, 0))) := ⟨h4_⟩
   have n5_ : Aside0 (IsS93 w0 w26 g s0_0 t125) := ⟨h5_⟩
   have n6_ : Aside0 (KeepBut w w26 g none) := ⟨h6_⟩
   have n7_ : Aside0 (Below w0.heap.size w0 w26) := ⟨h7_⟩
   clear h0_ h1_ h2_ h3_ h4_ h5_ h6_ h7_
   revert n0_ n1_ n2_ n3_ n4_ n5_ n6_ n7_
   intro HO120 HO128 HA_HO120 HA_HO128 BK113 HI0 HK HB
   have hHeld := trivial
   obtain ⟨co27, eo27⟩ := HA_HO120.out
   clear HA_HO120
   subst eo27
   obtain ⟨co28, eo28⟩ := HA_HO128.out
   clear HA_HO128
   subst eo28
   refine norm_ (a' := ?_) ?_ ?_
   rotate_left
   ·simp only [putAll, Act.put, List.setIfInBounds_toArray, List.set_cons_zero, List.set_cons_succ]
    rfl
   refine two_ (i := 14) (j := 18) (Ni := some 18) (Nj := some 3) spec_l31Out.m22 spec_l31Out.m14 rfl rfl rfl rfl (two_of HT_.out (by kernel_rfl)) (by decide) (by decide) (fun K hK => ?_) (fun K hK => ?_)
   ·skip
    refine goes_ Try.func53 (by kernel_rfl) rfl #[.pointer (some ⟨g, 0, none⟩), .int .i64 5] (by rfl) rfl rfl (by (try simp only [List.map_toArray, List.map_cons, List.map_nil]); first | done | rfl | (simp only [List.length_drop, List.length_take]; rfl)) ?_
    with_reducible refine (spec_l30Rd_pick.calls k g s0_0 t125 5 t129 t130 w0 _ ?side1 ?side2 A8.out).mono ?_
    (case side1 => repeat (first | (with_reducible first | exact HI0.out | apply IsS93.alloc | apply IsS93.drewN | apply IsS93.drew | apply IsS93.set_1 | refine IsS93.far ?_ NB0_113.out _) | exact HI0.out))
    (case side2 => repeat (first | (with_reducible first | exact HB.out | apply yA | apply yN | apply yD | refine yS ?_ (IsS93.ge HI0.out) | refine yS ?_ GE113.out) | exact HB.out))
    rintro e w29 ⟨rfl, hi, hb, hk⟩
    refine ⟨_, rfl, ?_⟩
    have n0_ := qM (KeepBut.blk hk (g' := gb113) (o := .cells #[.int .i64 0, .int .i64 0, .int .i64 0, .int .i64 0] 53 (0, 0)) BK113.out NB113_0.out (by simp))
    have n1_ := qM (Kd.R_mono (Kd.R_keep (IsS93.apart (show IsS93 w0 _ g s0_0 t125 from by repeat (first | (with_reducible first | exact HI0.out | apply IsS93.alloc | apply IsS93.drewN | apply IsS93.drew | apply IsS93.set_1 | refine IsS93.far ?_ NB0_113.out _) | exact HI0.out)) HO120.out (by decide)) hk (fun _ h => h.2)) (fun _ h => h.1))
    have n2_ := qM (Kd.R_mono (Kd.R_keep (IsS93.apart (show IsS93 w0 _ g s0_0 t125 from by repeat (first | (with_reducible first | exact HI0.out | apply IsS93.alloc | apply IsS93.drewN | apply IsS93.drew | apply IsS93.set_1 | refine IsS93.far ?_ NB0_113.out _) | exact HI0.out)) HO128.out (by decide)) hk (fun _ h => h.2)) (fun _ h => h.1))
    have n3_ := qM (KeepBut.trans HK.out hk (.inl rfl))
    have n4_ := qM (hb)
    have n5_ := qM (hi)
    clear BK113 HO120 HO128 HK HB HI0
    revert n0_ n1_ n2_ n3_ n4_ n5_
    intro BK113 HO120 HO128 HK HB HI0
    (try clear hb)
    (try clear hb2)
    (try clear hk)
    (try clear hi)
    refine hK.out _ _ trivial (fun hHeld => ?_)
    clear hK K
    refine norm_ (a' := ?_) ?_ ?_
    rotate_left
    ·show Act.put _ (some 18) _ = _
     simp only [Act.put, List.setIfInBounds_toArray, List.set_cons_zero, List.set_cons_succ, i64_w, i32_w]
     rfl
    refine pure_ (i := 15) (N := some 19) (v := ?_) (a' := ?_) spec_l31Out.m12 rfl rfl (any_of HT_.out (by kernel_rfl)) (fun _ _ _ h => h) (Or.inl ⟨by rfl, ?_⟩) ?_ ?_
    rotate_left
    ·intro w'
     go_simp
     with_reducible rfl
    rotate_left
    ·simp only [Act.put, List.setIfInBounds_toArray, List.set_cons_zero, List.set_cons_succ, i64_w, i32_w]
     rfl
    exact norm_ (by first | (simp only [putAll, Act.put, List.setIfInBounds_toArray, List.set_cons_zero, List.set_cons_succ]; done) | (simp only [putAll, Act.put, List.setIfInBounds_toArray, List.set_cons_zero, List.set_cons_succ]; rfl)) (hJ1_4_5_7_9_11_12_14 (.slice (some adz_v119) y118.length co27, adz_v119, .slice (some adz_v127) y126.length co28, adz_v127) _ ⟨HO120.out, HO128.out, ⟨_, rfl⟩, ⟨_, rfl⟩, BK113.out, HI0.out, HK.out, HB.out⟩)
   ·skip
    refine box_step ?hg (N := 3) ?hd (cs := #[.int .i64 0, .int .i64 0, .int .i64 0, .int .i64 0]) (t := 53) ?hr ?_; (case hd => rfl); (case hg => rfl); (case hr => first | (go_simp; done) | (go_simp; rfl))
    intro gb132 hg w29 hbox hb
    have n0_ := qM (Kd.R_below HO120.out hb)
    have n1_ := qM (Kd.R_below HO128.out hb)
    have n2_ := qM (IsS93.below HI0.out hb)
    have n3_ := qM (blk_below (g := gb113) (o := .cells #[.int .i64 0, .int .i64 0, .int .i64 0, .int .i64 0] 53 (0, 0)) BK113.out hb)
    have n4_ := qM (KeepBut.trans HK.out (KeepBut.of_below hb g none) (.inl rfl))
    have n5_ := qM (below_step HB.out hb)
    have n6_ := qM (hbox)
    have n7_ := qM ((by rw [hg]; exact (keep_size (w := w) (g := g) (row := none) HK.out) : w.heap.size ≤ gb132))
    have n8_ := qM ((Nat.le_trans HW0.out (by rw [hg]; exact (keep_size (w := w) (g := g) (row := none) HK.out) : w.heap.size ≤ gb132) : w0.heap.size ≤ gb132))
    have n9_ := qM ((by rw [hg]; exact Nat.ne_of_lt (blk_lt (g := gb113) (o := .cells #[.int .i64 0, .int .i64 0, .int .i64 0, .int .i64 0] 53 (0, 0)) BK113.out) : gb113 ≠ gb132))
    have n10_ := qM ((by rw [hg]; exact Nat.ne_of_gt (blk_lt (g := gb113) (o := .cells #[.int .i64 0, .int .i64 0, .int .i64 0, .int .i64 0] 53 (0, 0)) BK113.out) : gb132 ≠ gb113))
    have n11_ := qM ((by rw [hg]; exact Nat.ne_of_lt (IsS93.lt (show IsS93 w0 _ g s0_0 t125 from by repeat (first | (with_reducible first | exact HI0.out | apply IsS93.alloc | apply IsS93.drewN | apply IsS93.drew | apply IsS93.set_1 | refine IsS93.far ?_ NB0_113.out _) | exact HI0.out))) : g ≠ gb132))
    have n12_ := qM ((by rw [hg]; exact Nat.ne_of_gt (IsS93.lt (show IsS93 w0 _ g s0_0 t125 from by repeat (first | (with_reducible first | exact HI0.out | apply IsS93.alloc | apply IsS93.drewN | apply IsS93.drew | apply IsS93.set_1 | refine IsS93.far ?_ NB0_113.out _) | exact HI0.out))) : gb132 ≠ g))
    clear HO120 HO128 HI0 BK113 HK HB
    revert n0_ n1_ n2_ n3_ n4_ n5_ n6_ n7_ n8_ n9_ n10_ n11_ n12_
    intro HO120 HO128 HI0 BK113 HK HB BK132 GW132 GE132 NB113_132 NB132_113 NB0_132 NB132_0
    clear hb hbox hg
    refine hK.out _ _ trivial (fun hHeld => ?_)
    clear hK K
    refine norm_ (a' := ?_) ?_ ?_
    rotate_left
    ·show Act.put _ (some 3) _ = _
     simp only [Act.put, List.setIfInBounds_toArray, List.set_cons_zero, List.set_cons_succ, i64_w, i32_w]
     rfl
    exact norm_ (by first | (simp only [putAll, Act.put, List.setIfInBounds_toArray, List.set_cons_zero, List.set_cons_succ]; done) | (simp only [putAll, Act.put, List.setIfInBounds_toArray, List.set_cons_zero, List.set_cons_succ]; rfl)) (hJ1_4_5_7_9_11_12_18 (.slice (some adz_v119) y118.length co27, adz_v119, .slice (some adz_v127) y126.length co28, adz_v127, gb132) _ ⟨HO120.out, HO128.out, ⟨_, rfl⟩, ⟨_, rfl⟩, BK113.out, BK132.out, GW132.out, GE132.out, NB0_132.out, NB132_0.out, NB113_132.out, NB132_113.out, HI0.out, HK.out, HB.out⟩)
set_option maxHeartbeats 8000000 in
set_option maxRecDepth 100000 in
theorem spec_l31Out.j1_4_5_7_9_11_14 (k g : Nat) (s0_0 : List Int) (s0_1 : Int) (w0 w : World) (gb113 : Nat) (t114 t115 t116 t117 t121 t122 t124 t125 t129 t130 : Int) (y118 y126 : List Int) (K : Act → World → Prop) (post : Ending → World → Prop) (hC : spec_l31Out.CX k g s0_0 s0_1 w0 w gb113 t114 t115 t116 t117 t121 t122 t124 t125 t129 t130 y118 y126) (hJ1_4_5_7_9_11_12_14 : spec_l31Out.J1_4_5_7_9_11_12_14 k g s0_0 s0_1 w0 w gb113 t114 t115 t116 t117 t121 t122 t124 t125 t129 t130 y118 y126 K post) (hJ1_4_5_7_9_11_14_18 : spec_l31Out.J1_4_5_7_9_11_14_18 k g s0_0 s0_1 w0 w gb113 t114 t115 t116 t117 t121 t122 t124 t125 t129 t130 y118 y126 K post) : spec_l31Out.J1_4_5_7_9_11_14 k g s0_0 s0_1 w0 w gb113 t114 t115 t116 t117 t121 t122 t124 t125 t129 t130 y118 y126 K post := by
 obtain ⟨HW0, A2, A3, Ny118, A4, A7, Ny126, A8, GW113, GE113, NB0_113, NB113_0, c5b0, c6b0, c9b0, c10b0⟩ := hC
 have HT_ := qM spec_l31Out.tabO
 have HW_ := qM spec_l31Out.bits1
 have pi123 : (0 ≤ (t121 : Int)) = True := eq_true (of_decide_eq_true c5b0)
 have qi123 : (t121 < (y118.length : Int)) = True := eq_true (of_decide_eq_true c6b0)
 have pi131 : (0 ≤ (t129 : Int)) = True := eq_true (of_decide_eq_true c9b0)
 have qi131 : (t129 < (y126.length : Int)) = True := eq_true (of_decide_eq_true c10b0)
 unfold spec_l31Out.J1_4_5_7_9_11_12_14 spec_l31Out.FR spec_l31Out.OPS at hJ1_4_5_7_9_11_12_14
 unfold spec_l31Out.J1_4_5_7_9_11_14_18 spec_l31Out.FR spec_l31Out.OPS at hJ1_4_5_7_9_11_14_18
 unfold spec_l31Out.J1_4_5_7_9_11_14 spec_l31Out.FR spec_l31Out.OPS
 ··skip
   rintro ⟨v119, adz_v119⟩ w24 ⟨h0_, h1_, h2_, h3_, h4_, h5_⟩
   have n0_ : Aside0 (Kd.R (Kd.int .i64) 3 w24 w.heap.size (fun _ => True) v119 y118) := ⟨h0_⟩
   have n1_ : Aside0 (∃ c_, (v119 : Value) = .slice (some adz_v119) y118.length c_) := ⟨h1_⟩
   have n2_ : Aside0 (w24.heap[gb113]? = some (.cells #[.int .i64 0, .int .i64 0, .int .i64 0, .int .i64 0] 53 (0, 0))) := ⟨h2_⟩
   have n3_ : Aside0 (IsS93 w0 w24 g s0_0 t130) := ⟨h3_⟩
   have n4_ : Aside0 (KeepBut w w24 g none) := ⟨h4_⟩
   have n5_ : Aside0 (Below w0.heap.size w0 w24) := ⟨h5_⟩
   clear h0_ h1_ h2_ h3_ h4_ h5_
   revert n0_ n1_ n2_ n3_ n4_ n5_
   intro HO120 HA_HO120 BK113 HI0 HK HB
   have hHeld := trivial
   obtain ⟨co25, eo25⟩ := HA_HO120.out
   clear HA_HO120
   subst eo25
   refine norm_ (a' := ?_) ?_ ?_
   rotate_left
   ·simp only [putAll, Act.put, List.setIfInBounds_toArray, List.set_cons_zero, List.set_cons_succ]
    rfl
   refine two_ (i := 12) (j := 18) (Ni := some 16) (Nj := some 3) spec_l31Out.m22 spec_l31Out.m16 rfl rfl rfl rfl (two_of HT_.out (by kernel_rfl)) (by decide) (by decide) (fun K hK => ?_) (fun K hK => ?_)
   ·skip
    refine Kd.R_lit_step (Kd.int .i64) _ 3 ?hg (N := 16) ?hd (xs := ([0, 1, 14, 15, t124] : List Int)) (inner := [.int .i64 0, .int .i64 1, .int .i64 14, .int .i64 15, .int .i64 t124]) (ok := fun _ => True) (okp := fun _ => True) ?hr ?hp (fun _ hk => hk) trivial (Below.refl _ _) (Nat.le_refl _) (by simp) ?_; (case hd => rfl); (case hg => rfl); (case hr => first | (go_simp; done) | (go_simp; rfl)); (case hp => exact (Reps.one (show Kd.M (Kd.int .i64) _ _ _ 0 [.int .i64 0] from rfl) (Reps.one (show Kd.M (Kd.int .i64) _ _ _ 1 [.int .i64 1] from rfl) (Reps.one (show Kd.M (Kd.int .i64) _ _ _ 14 [.int .i64 14] from rfl) (Reps.one (show Kd.M (Kd.int .i64) _ _ _ 15 [.int .i64 15] from rfl) (Reps.one (show Kd.M (Kd.int .i64) _ _ _ t124 [.int .i64 t124] from rfl) (Reps.none _ _)))))))
    intro v127 w26 ho27 hb hg_ hnew_
    clear hg_ hnew_
    (first | rw [← Ny126.out] at ho27 | (simp only [Int.reduceToNat] at ho27; rw [← Ny126.out] at ho27))
    have n0_ := qM (Kd.R_elder' HO120.out (Kd.R_base ho27) hb)
    have n1_ := qM (Kd.R_lower (Kd.R_new' ho27 (Kd.R_lt HO120.out)) (keep_size (w := w) (g := g) (row := none) HK.out))
    have n2_ := qM (IsS93.below HI0.out hb)
    have n3_ := qM (blk_below (g := gb113) (o := .cells #[.int .i64 0, .int .i64 0, .int .i64 0, .int .i64 0] 53 (0, 0)) BK113.out hb)
    have n4_ := qM (KeepBut.trans HK.out (KeepBut.of_below hb g none) (.inl rfl))
    have n5_ := qM (below_step HB.out hb)
    clear HO120 HI0 BK113 HK HB
    revert n0_ n1_ n2_ n3_ n4_ n5_
    intro HO120 HO128 HI0 BK113 HK HB
    clear hb ho27
    obtain ⟨Ao28, co28, eo28⟩ := Kd.R_slice HO128.out
    subst eo28
    obtain ⟨ado28, fo28, _⟩ := Kd.at_int (qR HO128.out).2.2 0 (by decide) (by rw [Ny126.out]; simp)
    cases fo28
    refine hK.out _ _ trivial (fun hHeld => ?_)
    clear hK K
    refine norm_ (a' := ?_) ?_ ?_
    rotate_left
    ·show Act.put _ (some 16) _ = _
     simp only [Act.put, List.setIfInBounds_toArray, List.set_cons_zero, List.set_cons_succ, i64_w, i32_w]
     rfl
    refine pure_ (i := 15) (N := some 19) (v := ?_) (a' := ?_) spec_l31Out.m12 rfl rfl (any_of HT_.out (by kernel_rfl)) (fun _ _ _ h => h) (Or.inl ⟨by rfl, ?_⟩) ?_ ?_
    rotate_left
    ·intro w'
     go_simp
     with_reducible rfl
    rotate_left
    ·simp only [Act.put, List.setIfInBounds_toArray, List.set_cons_zero, List.set_cons_succ, i64_w, i32_w]
     rfl
    exact norm_ (by first | (simp only [putAll, Act.put, List.setIfInBounds_toArray, List.set_cons_zero, List.set_cons_succ]; done) | (simp only [putAll, Act.put, List.setIfInBounds_toArray, List.set_cons_zero, List.set_cons_succ]; rfl)) (hJ1_4_5_7_9_11_12_14 (.slice (some adz_v119) y118.length co25, adz_v119, .slice (some ado28) y126.length co28, ado28) _ ⟨(by (with_reducible repeat (first | apply qA | apply qN | apply qD)); exact Kd.R_mono HO120.out (fun _ hk => hk.2)), (by (with_reducible repeat (first | apply qA | apply qN | apply qD)); exact Kd.R_mono HO128.out (fun _ hk => hk.2)), ⟨_, rfl⟩, ⟨_, rfl⟩, BK113.out, HI0.out, HK.out, HB.out⟩)
   ·skip
    refine box_step ?hg (N := 3) ?hd (cs := #[.int .i64 0, .int .i64 0, .int .i64 0, .int .i64 0]) (t := 53) ?hr ?_; (case hd => rfl); (case hg => rfl); (case hr => first | (go_simp; done) | (go_simp; rfl))
    intro gb132 hg w26 hbox hb
    have n0_ := qM (Kd.R_below HO120.out hb)
    have n1_ := qM (IsS93.below HI0.out hb)
    have n2_ := qM (blk_below (g := gb113) (o := .cells #[.int .i64 0, .int .i64 0, .int .i64 0, .int .i64 0] 53 (0, 0)) BK113.out hb)
    have n3_ := qM (KeepBut.trans HK.out (KeepBut.of_below hb g none) (.inl rfl))
    have n4_ := qM (below_step HB.out hb)
    have n5_ := qM (hbox)
    have n6_ := qM ((by rw [hg]; exact (keep_size (w := w) (g := g) (row := none) HK.out) : w.heap.size ≤ gb132))
    have n7_ := qM ((Nat.le_trans HW0.out (by rw [hg]; exact (keep_size (w := w) (g := g) (row := none) HK.out) : w.heap.size ≤ gb132) : w0.heap.size ≤ gb132))
    have n8_ := qM ((by rw [hg]; exact Nat.ne_of_lt (blk_lt (g := gb113) (o := .cells #[.int .i64 0, .int .i64 0, .int .i64 0, .int .i64 0] 53 (0, 0)) BK113.out) : gb113 ≠ gb132))
    have n9_ := qM ((by rw [hg]; exact Nat.ne_of_gt (blk_lt (g := gb113) (o := .cells #[.int .i64 0, .int .i64 0, .int .i64 0, .int .i64 0] 53 (0, 0)) BK113.out) : gb132 ≠ gb113))
    have n10_ := qM ((by rw [hg]; exact Nat.ne_of_lt (IsS93.lt (show IsS93 w0 _ g s0_0 t130 from by repeat (first | (with_reducible first | exact HI0.out | apply IsS93.alloc | apply IsS93.drewN | apply IsS93.drew | apply IsS93.set_1 | refine IsS93.far ?_ NB0_113.out _) | exact HI0.out))) : g ≠ gb132))
    have n11_ := qM ((by rw [hg]; exact Nat.ne_of_gt (IsS93.lt (show IsS93 w0 _ g s0_0 t130 from by repeat (first | (with_reducible first | exact HI0.out | apply IsS93.alloc | apply IsS93.drewN | apply IsS93.drew | apply IsS93.set_1 | refine IsS93.far ?_ NB0_113.out _) | exact HI0.out))) : gb132 ≠ g))
    clear HO120 HI0 BK113 HK HB
    revert n0_ n1_ n2_ n3_ n4_ n5_ n6_ n7_ n8_ n9_ n10_ n11_
    intro HO120 HI0 BK113 HK HB BK132 GW132 GE132 NB113_132 NB132_113 NB0_132 NB132_0
    clear hb hbox hg
    refine hK.out _ _ trivial (fun hHeld => ?_)
    clear hK K
    refine norm_ (a' := ?_) ?_ ?_
    rotate_left
    ·show Act.put _ (some 3) _ = _
     simp only [Act.put, List.setIfInBounds_toArray, List.set_cons_zero, List.set_cons_succ, i64_w, i32_w]
     rfl
    exact norm_ (by first | (simp only [putAll, Act.put, List.setIfInBounds_toArray, List.set_cons_zero, List.set_cons_succ]; done) | (simp only [putAll, Act.put, List.setIfInBounds_toArray, List.set_cons_zero, List.set_cons_succ]; rfl)) (hJ1_4_5_7_9_11_14_18 (.slice (some adz_v119) y118.length co25, adz_v119, gb132) _ ⟨HO120.out, ⟨_, rfl⟩, BK113.out, BK132.out, GW132.out, GE132.out, NB0_132.out, NB132_0.out, NB113_132.out, NB132_113.out, HI0.out, HK.out, HB.out⟩)
set_option maxHeartbeats 8000000 in
set_option maxRecDepth 100000 in
theorem spec_l31Out.j1_4_5_7_9_11_18 (k g : Nat) (s0_0 : List Int) (s0_1 : Int) (w0 w : World) (gb113 : Nat) (t114 t115 t116 t117 t121 t122 t124 t125 t129 t130 : Int) (y118 y126 : List Int) (K : Act → World → Prop) (post : Ending → World → Prop) (hC : spec_l31Out.CX k g s0_0 s0_1 w0 w gb113 t114 t115 t116 t117 t121 t122 t124 t125 t129 t130 y118 y126) (hJ1_4_5_7_9_11_12_18 : spec_l31Out.J1_4_5_7_9_11_12_18 k g s0_0 s0_1 w0 w gb113 t114 t115 t116 t117 t121 t122 t124 t125 t129 t130 y118 y126 K post) (hJ1_4_5_7_9_11_14_18 : spec_l31Out.J1_4_5_7_9_11_14_18 k g s0_0 s0_1 w0 w gb113 t114 t115 t116 t117 t121 t122 t124 t125 t129 t130 y118 y126 K post) : spec_l31Out.J1_4_5_7_9_11_18 k g s0_0 s0_1 w0 w gb113 t114 t115 t116 t117 t121 t122 t124 t125 t129 t130 y118 y126 K post := by
 obtain ⟨HW0, A2, A3, Ny118, A4, A7, Ny126, A8, GW113, GE113, NB0_113, NB113_0, c5b0, c6b0, c9b0, c10b0⟩ := hC
 have HT_ := qM spec_l31Out.tabO
 have HW_ := qM spec_l31Out.bits1
 have pi123 : (0 ≤ (t121 : Int)) = True := eq_true (of_decide_eq_true c5b0)
 have qi123 : (t121 < (y118.length : Int)) = True := eq_true (of_decide_eq_true c6b0)
 have pi131 : (0 ≤ (t129 : Int)) = True := eq_true (of_decide_eq_true c9b0)
 have qi131 : (t129 < (y126.length : Int)) = True := eq_true (of_decide_eq_true c10b0)
 unfold spec_l31Out.J1_4_5_7_9_11_12_18 spec_l31Out.FR spec_l31Out.OPS at hJ1_4_5_7_9_11_12_18
 unfold spec_l31Out.J1_4_5_7_9_11_14_18 spec_l31Out.FR spec_l31Out.OPS at hJ1_4_5_7_9_11_14_18
 unfold spec_l31Out.J1_4_5_7_9_11_18 spec_l31Out.FR spec_l31Out.OPS
 ··skip
   rintro ⟨v119, adz_v119, gb132⟩ w24 ⟨h0_, h1_, h2_, h3_, h4_, h5_, h6_, h7_, h8_, h9_, h10_, h11_, h12_⟩
   have n0_ : Aside0 (Kd.R (Kd.int .i64) 3 w24 w.heap.size (fun _ => True) v119 y118) := ⟨h0_⟩
   have n1_ : Aside0 (∃ c_, (v119 : Value) = .slice (some adz_v119) y118.length c_) := ⟨h1_⟩
   have n2_ : Aside0 (w24.heap[gb113]? = some (.cells #[.int .i64 0, .int .i64 0, .int .i64 0, .int .i64 0] 53 (0, 0))) := ⟨h2_⟩
   have n3_ : Aside0 (w24.heap[gb132]? = some (.cells #[.int .i64 0, .int .i64 0, .int .i64 0, .int .i64 0] 53 (0, 0))) := ⟨h3_⟩
   have n4_ : Aside0 (w.heap.size ≤ gb132) := ⟨h4_⟩
   have n5_ : Aside0 (w0.heap.size ≤ gb132) := ⟨h5_⟩
   have n6_ : Aside0 (g ≠ gb132) := ⟨h6_⟩
   have n7_ : Aside0 (gb132 ≠ g) := ⟨h7_⟩
   have n8_ : Aside0 (gb113 ≠ gb132) := ⟨h8_⟩
   have n9_ : Aside0 (gb132 ≠ gb113) := ⟨h9_⟩
   have n10_ : Aside0 (IsS93 w0 w24 g s0_0 t125) := ⟨h10_⟩
   have n11_ : Aside0 (KeepBut w w24 g none) := ⟨h11_⟩
   have n12_ : Aside0 (Below w0.heap.size w0 w24) := ⟨h12_⟩
   clear h0_ h1_ h2_ h3_ h4_ h5_ h6_ h7_ h8_ h9_ h10_ h11_ h12_
   revert n0_ n1_ n2_ n3_ n4_ n5_ n6_ n7_ n8_ n9_ n10_ n11_ n12_
   intro HO120 HA_HO120 BK113 BK132 GW132 GE132 NB0_132 NB132_0 NB113_132 NB132_113 HI0 HK HB
   have hHeld := trivial
   obtain ⟨co25, eo25⟩ := HA_HO120.out
   clear HA_HO120
   subst eo25
   refine norm_ (a' := ?_) ?_ ?_
   rotate_left
   ·simp only [putAll, Act.put, List.setIfInBounds_toArray, List.set_cons_zero, List.set_cons_succ]
    rfl
   refine two_ (i := 12) (j := 14) (Ni := some 16) (Nj := some 18) spec_l31Out.m14 spec_l31Out.m16 rfl rfl rfl rfl (two_of HT_.out (by kernel_rfl)) (by decide) (by decide) (fun K hK => ?_) (fun K hK => ?_)
   ·skip
    refine Kd.R_lit_step (Kd.int .i64) _ 3 ?hg (N := 16) ?hd (xs := ([0, 1, 14, 15, t124] : List Int)) (inner := [.int .i64 0, .int .i64 1, .int .i64 14, .int .i64 15, .int .i64 t124]) (ok := fun _ => True) (okp := fun _ => True) ?hr ?hp (fun _ hk => hk) trivial (Below.refl _ _) (Nat.le_refl _) (by simp) ?_; (case hd => rfl); (case hg => rfl); (case hr => first | (go_simp; done) | (go_simp; rfl)); (case hp => exact (Reps.one (show Kd.M (Kd.int .i64) _ _ _ 0 [.int .i64 0] from rfl) (Reps.one (show Kd.M (Kd.int .i64) _ _ _ 1 [.int .i64 1] from rfl) (Reps.one (show Kd.M (Kd.int .i64) _ _ _ 14 [.int .i64 14] from rfl) (Reps.one (show Kd.M (Kd.int .i64) _ _ _ 15 [.int .i64 15] from rfl) (Reps.one (show Kd.M (Kd.int .i64) _ _ _ t124 [.int .i64 t124] from rfl) (Reps.none _ _)))))))
    intro v127 w26 ho27 hb hg_ hnew_
    clear hg_ hnew_
    (first | rw [← Ny126.out] at ho27 | (simp only [Int.reduceToNat] at ho27; rw [← Ny126.out] at ho27))
    have n0_ := qM (Kd.R_elder' HO120.out (Kd.R_base ho27) hb)
    have n1_ := qM (Kd.R_lower (Kd.R_new' ho27 (Kd.R_lt HO120.out)) (keep_size (w := w) (g := g) (row := none) HK.out))
    have n2_ := qM (IsS93.below HI0.out hb)
    have n3_ := qM (blk_below (g := gb113) (o := .cells #[.int .i64 0, .int .i64 0, .int .i64 0, .int .i64 0] 53 (0, 0)) BK113.out hb)
    have n4_ := qM (blk_below (g := gb132) (o := .cells #[.int .i64 0, .int .i64 0, .int .i64 0, .int .i64 0] 53 (0, 0)) BK132.out hb)
    have n5_ := qM (KeepBut.trans HK.out (KeepBut.of_below hb g none) (.inl rfl))
    have n6_ := qM (below_step HB.out hb)
    clear HO120 HI0 BK113 BK132 HK HB
    revert n0_ n1_ n2_ n3_ n4_ n5_ n6_
    intro HO120 HO128 HI0 BK113 BK132 HK HB
    clear hb ho27
    obtain ⟨Ao28, co28, eo28⟩ := Kd.R_slice HO128.out
    subst eo28
    obtain ⟨ado28, fo28, _⟩ := Kd.at_int (qR HO128.out).2.2 0 (by decide) (by rw [Ny126.out]; simp)
    cases fo28
    refine hK.out _ _ trivial (fun hHeld => ?_)
    clear hK K
    refine norm_ (a' := ?_) ?_ ?_
    rotate_left
    ·show Act.put _ (some 16) _ = _
     simp only [Act.put, List.setIfInBounds_toArray, List.set_cons_zero, List.set_cons_succ, i64_w, i32_w]
     rfl
    exact norm_ (by first | (simp only [putAll, Act.put, List.setIfInBounds_toArray, List.set_cons_zero, List.set_cons_succ]; done) | (simp only [putAll, Act.put, List.setIfInBounds_toArray, List.set_cons_zero, List.set_cons_succ]; rfl)) (hJ1_4_5_7_9_11_12_18 (.slice (some adz_v119) y118.length co25, adz_v119, .slice (some ado28) y126.length co28, ado28, gb132) _ ⟨(by (with_reducible repeat (first | apply qA | apply qN | apply qD)); exact Kd.R_mono HO120.out (fun _ hk => hk.2)), (by (with_reducible repeat (first | apply qA | apply qN | apply qD)); exact Kd.R_mono HO128.out (fun _ hk => hk.2)), ⟨_, rfl⟩, ⟨_, rfl⟩, BK113.out, BK132.out, GW132.out, GE132.out, NB0_132.out, NB132_0.out, NB113_132.out, NB132_113.out, HI0.out, HK.out, HB.out⟩)
   ·skip
    refine goes_ Try.func53 (by kernel_rfl) rfl #[.pointer (some ⟨g, 0, none⟩), .int .i64 5] (by rfl) rfl rfl (by (try simp only [List.map_toArray, List.map_cons, List.map_nil]); first | done | rfl | (simp only [List.length_drop, List.length_take]; rfl)) ?_
    with_reducible refine (spec_l30Rd_pick.calls k g s0_0 t125 5 t129 t130 w0 _ ?side1 ?side2 A8.out).mono ?_
    (case side1 => repeat (first | (with_reducible first | exact HI0.out | apply IsS93.alloc | apply IsS93.drewN | apply IsS93.drew | apply IsS93.set_1 | refine IsS93.far ?_ NB0_113.out _ | refine IsS93.far ?_ NB0_132.out _) | exact HI0.out))
    (case side2 => repeat (first | (with_reducible first | exact HB.out | apply yA | apply yN | apply yD | refine yS ?_ (IsS93.ge HI0.out) | refine yS ?_ GE113.out | refine yS ?_ GE132.out) | exact HB.out))
    rintro e w26 ⟨rfl, hi, hb, hk⟩
    refine ⟨_, rfl, ?_⟩
    have n0_ := qM (KeepBut.blk hk (g' := gb113) (o := .cells #[.int .i64 0, .int .i64 0, .int .i64 0, .int .i64 0] 53 (0, 0)) BK113.out NB113_0.out (by simp))
    have n1_ := qM (Kd.R_mono (Kd.R_keep (IsS93.apart (show IsS93 w0 _ g s0_0 t125 from by repeat (first | (with_reducible first | exact HI0.out | apply IsS93.alloc | apply IsS93.drewN | apply IsS93.drew | apply IsS93.set_1 | refine IsS93.far ?_ NB0_113.out _ | refine IsS93.far ?_ NB0_132.out _) | exact HI0.out)) HO120.out (by decide)) hk (fun _ h => h.2)) (fun _ h => h.1))
    have n2_ := qM (KeepBut.blk hk (g' := gb132) (o := .cells #[.int .i64 0, .int .i64 0, .int .i64 0, .int .i64 0] 53 (0, 0)) BK132.out NB132_0.out (by simp))
    have n3_ := qM (KeepBut.trans HK.out hk (.inl rfl))
    have n4_ := qM (hb)
    have n5_ := qM (hi)
    clear BK113 HO120 BK132 HK HB HI0
    revert n0_ n1_ n2_ n3_ n4_ n5_
    intro BK113 HO120 BK132 HK HB HI0
    (try clear hb)
    (try clear hb2)
    (try clear hk)
    (try clear hi)
    refine hK.out _ _ trivial (fun hHeld => ?_)
    clear hK K
    refine norm_ (a' := ?_) ?_ ?_
    rotate_left
    ·show Act.put _ (some 18) _ = _
     simp only [Act.put, List.setIfInBounds_toArray, List.set_cons_zero, List.set_cons_succ, i64_w, i32_w]
     rfl
    exact norm_ (by first | (simp only [putAll, Act.put, List.setIfInBounds_toArray, List.set_cons_zero, List.set_cons_succ]; done) | (simp only [putAll, Act.put, List.setIfInBounds_toArray, List.set_cons_zero, List.set_cons_succ]; rfl)) (hJ1_4_5_7_9_11_14_18 (.slice (some adz_v119) y118.length co25, adz_v119, gb132) _ ⟨HO120.out, ⟨_, rfl⟩, BK113.out, BK132.out, GW132.out, GE132.out, NB0_132.out, NB132_0.out, NB113_132.out, NB132_113.out, HI0.out, HK.out, HB.out⟩)
set_option maxHeartbeats 8000000 in
set_option maxRecDepth 100000 in
theorem spec_l31Out.j1_4_5_7_11_12_14 (k g : Nat) (s0_0 : List Int) (s0_1 : Int) (w0 w : World) (gb113 : Nat) (t114 t115 t116 t117 t121 t122 t124 t125 t129 t130 : Int) (y118 y126 : List Int) (K : Act → World → Prop) (post : Ending → World → Prop) (hC : spec_l31Out.CX k g s0_0 s0_1 w0 w gb113 t114 t115 t116 t117 t121 t122 t124 t125 t129 t130 y118 y126) (hJ1_4_5_7_9_11_12_14 : spec_l31Out.J1_4_5_7_9_11_12_14 k g s0_0 s0_1 w0 w gb113 t114 t115 t116 t117 t121 t122 t124 t125 t129 t130 y118 y126 K post) (hJ1_4_5_7_11_12_14_16 : spec_l31Out.J1_4_5_7_11_12_14_16 k g s0_0 s0_1 w0 w gb113 t114 t115 t116 t117 t121 t122 t124 t125 t129 t130 y118 y126 K post) (hJ1_4_5_7_11_12_14_18 : spec_l31Out.J1_4_5_7_11_12_14_18 k g s0_0 s0_1 w0 w gb113 t114 t115 t116 t117 t121 t122 t124 t125 t129 t130 y118 y126 K post) : spec_l31Out.J1_4_5_7_11_12_14 k g s0_0 s0_1 w0 w gb113 t114 t115 t116 t117 t121 t122 t124 t125 t129 t130 y118 y126 K post := by
 obtain ⟨HW0, A2, A3, Ny118, A4, A7, Ny126, A8, GW113, GE113, NB0_113, NB113_0, c5b0, c6b0, c9b0, c10b0⟩ := hC
 have HT_ := qM spec_l31Out.tabO
 have HW_ := qM spec_l31Out.bits1
 have pi123 : (0 ≤ (t121 : Int)) = True := eq_true (of_decide_eq_true c5b0)
 have qi123 : (t121 < (y118.length : Int)) = True := eq_true (of_decide_eq_true c6b0)
 have pi131 : (0 ≤ (t129 : Int)) = True := eq_true (of_decide_eq_true c9b0)
 have qi131 : (t129 < (y126.length : Int)) = True := eq_true (of_decide_eq_true c10b0)
 unfold spec_l31Out.J1_4_5_7_9_11_12_14 spec_l31Out.FR spec_l31Out.OPS at hJ1_4_5_7_9_11_12_14
 unfold spec_l31Out.J1_4_5_7_11_12_14_16 spec_l31Out.FR spec_l31Out.OPS at hJ1_4_5_7_11_12_14_16
 unfold spec_l31Out.J1_4_5_7_11_12_14_18 spec_l31Out.FR spec_l31Out.OPS at hJ1_4_5_7_11_12_14_18
 unfold spec_l31Out.J1_4_5_7_11_12_14 spec_l31Out.FR spec_l31Out.OPS
 ··skip
   rintro ⟨v119, adz_v119, v127, adz_v127⟩ w27 ⟨h0_, h1_, h2_, h3_, h4_, h5_, h6_, h7_⟩
   have n0_ : Aside0 (Kd.R (Kd.int .i64) 3 w27 w.heap.size (fun k_ => some k_ ≠ (v127 : Value).ownBlock) v119 y118) := ⟨h0_⟩
   have n1_ : Aside0 (Kd.R (Kd.int .i64) 3 w27 w.heap.size (fun k_ => some k_ ≠ (v119 : Value).ownBlock) v127 y126) := ⟨h1_⟩
   have n2_ : Aside0 (∃ c_, (v119 : Value) = .slice (some adz_v119) y118.length c_) := ⟨h2_⟩
   have n3_ : Aside0 (∃ c_, (v127 : Value) = .slice (some adz_v127) y126.length c_) := ⟨h3_⟩
   have n4_ : Aside0 (w27.heap[gb113]? = some (.cells #[.int .i64 0, .int .i64 0, .int .i64 0, .int .i64 0] 53 (0, 0))) := ⟨h4_⟩
   have n5_ : Aside0 (IsS93 w0 w27 g s0_0 t130) := ⟨h5_⟩
   have n6_ : Aside0 (KeepBut w w27 g none) := ⟨h6_⟩
   have n7_ : Aside0 (Below w0.heap.size w0 w27) := ⟨h7_⟩
   clear h0_ h1_ h2_ h3_ h4_ h5_ h6_ h7_
   revert n0_ n1_ n2_ n3_ n4_ n5_ n6_ n7_
   intro HO120 HO128 HA_HO120 HA_HO128 BK113 HI0 HK HB
   have hHeld := trivial
   obtain ⟨co28, eo28⟩ := HA_HO120.out
   clear HA_HO120
   subst eo28
   obtain ⟨co29, eo29⟩ := HA_HO128.out
   clear HA_HO128
   subst eo29
   refine norm_ (a' := ?_) ?_ ?_
   rotate_left
   ·simp only [putAll, Act.put, List.setIfInBounds_toArray, List.set_cons_zero, List.set_cons_succ]
    rfl
   refine three_ (i := 9) (j := 16) (k := 18) (Ni := some 13) (Nj := some 20) (Nk := some 3) spec_l31Out.m12 spec_l31Out.m17 spec_l31Out.m18 rfl rfl rfl rfl rfl rfl (three_of HT_.out (by kernel_rfl)) (by decide) (by decide) (by decide) (fun K hK => ?_) (fun K hK => ?_) (fun K hK => ?_)
   ·skip
    (have p123 : 0 ≤ (t121 : Int) := of_decide_eq_true (by first | (with_reducible assumption) | assumption); have q123 : t121 < (y118.length : Int) := of_decide_eq_true (by first | (with_reducible assumption) | assumption); obtain ⟨ad123, e123, hx123_0⟩ := Kd.at_int (qR HO120.out).2.2 t121 p123 q123; obtain rfl : adz_v119 = ad123 := (by injection e123))
    refine value_ (w1 := ?_) (v := ?_) (by rfl) rfl ?_ ?_
    rotate_left 2
    ·go_simp
     constructor
     ·rfl
     ·rfl
    clear hx123_0
    refine hK.out _ _ trivial (fun hHeld => ?_)
    clear hK K
    refine norm_ (a' := ?_) ?_ ?_
    rotate_left
    ·show Act.put _ (some 13) _ = _
     simp only [Act.put, List.setIfInBounds_toArray, List.set_cons_zero, List.set_cons_succ, i64_w, i32_w]
     rfl
    exact norm_ (by first | (simp only [putAll, Act.put, List.setIfInBounds_toArray, List.set_cons_zero, List.set_cons_succ]; done) | (simp only [putAll, Act.put, List.setIfInBounds_toArray, List.set_cons_zero, List.set_cons_succ]; rfl)) (hJ1_4_5_7_9_11_12_14 (.slice (some adz_v119) y118.length co28, adz_v119, .slice (some adz_v127) y126.length co29, adz_v127) _ ⟨HO120.out, HO128.out, ⟨_, rfl⟩, ⟨_, rfl⟩, BK113.out, HI0.out, HK.out, HB.out⟩)
   ·skip
    (have p131 : 0 ≤ (t129 : Int) := of_decide_eq_true (by first | (with_reducible assumption) | assumption); have q131 : t129 < (y126.length : Int) := of_decide_eq_true (by first | (with_reducible assumption) | assumption); obtain ⟨ad131, e131, hx131_0⟩ := Kd.at_int (qR HO128.out).2.2 t129 p131 q131; obtain rfl : adz_v127 = ad131 := (by injection e131))
    refine value_ (w1 := ?_) (v := ?_) (by rfl) rfl ?_ ?_
    rotate_left 2
    ·go_simp
     constructor
     ·rfl
     ·rfl
    clear hx131_0
    refine hK.out _ _ trivial (fun hHeld => ?_)
    clear hK K
    refine norm_ (a' := ?_) ?_ ?_
    rotate_left
    ·show Act.put _ (some 20) _ = _
     simp only [Act.put, List.setIfInBounds_toArray, List.set_cons_zero, List.set_cons_succ, i64_w, i32_w]
     rfl
    exact norm_ (by first | (simp only [putAll, Act.put, List.setIfInBounds_toArray, List.set_cons_zero, List.set_cons_succ]; done) | (simp only [putAll, Act.put, List.setIfInBounds_toArray, List.set_cons_zero, List.set_cons_succ]; rfl)) (hJ1_4_5_7_11_12_14_16 (.slice (some adz_v119) y118.length co28, adz_v119, .slice (some adz_v127) y126.length co29, adz_v127) _ ⟨HO120.out, HO128.out, ⟨_, rfl⟩, ⟨_, rfl⟩, BK113.out, HI0.out, HK.out, HB.out⟩)
   ·skip
    refine box_step ?hg (N := 3) ?hd (cs := #[.int .i64 0, .int .i64 0, .int .i64 0, .int .i64 0]) (t := 53) ?hr ?_; (case hd => rfl); (case hg => rfl); (case hr => first | (go_simp; done) | (go_simp; rfl))
    intro gb132 hg w30 hbox hb
    have n0_ := qM (Kd.R_below HO120.out hb)
    have n1_ := qM (Kd.R_below HO128.out hb)
    have n2_ := qM (IsS93.below HI0.out hb)
    have n3_ := qM (blk_below (g := gb113) (o := .cells #[.int .i64 0, .int .i64 0, .int .i64 0, .int .i64 0] 53 (0, 0)) BK113.out hb)
    have n4_ := qM (KeepBut.trans HK.out (KeepBut.of_below hb g none) (.inl rfl))
    have n5_ := qM (below_step HB.out hb)
    have n6_ := qM (hbox)
    have n7_ := qM ((by rw [hg]; exact (keep_size (w := w) (g := g) (row := none) HK.out) : w.heap.size ≤ gb132))
    have n8_ := qM ((Nat.le_trans HW0.out (by rw [hg]; exact (keep_size (w := w) (g := g) (row := none) HK.out) : w.heap.size ≤ gb132) : w0.heap.size ≤ gb132))
    have n9_ := qM ((by rw [hg]; exact Nat.ne_of_lt (blk_lt (g := gb113) (o := .cells #[.int .i64 0, .int .i64 0, .int .i64 0, .int .i64 0] 53 (0, 0)) BK113.out) : gb113 ≠ gb132))
    have n10_ := qM ((by rw [hg]; exact Nat.ne_of_gt (blk_lt (g := gb113) (o := .cells #[.int .i64 0, .int .i64 0, .int .i64 0, .int .i64 0] 53 (0, 0)) BK113.out) : gb132 ≠ gb113))
    have n11_ := qM ((by rw [hg]; exact Nat.ne_of_lt (IsS93.lt (show IsS93 w0 _ g s0_0 t130 from by repeat (first | (with_reducible first | exact HI0.out | apply IsS93.alloc | apply IsS93.drewN | apply IsS93.drew | apply IsS93.set_1 | refine IsS93.far ?_ NB0_113.out _) | exact HI0.out))) : g ≠ gb132))
    have n12_ := qM ((by rw [hg]; exact Nat.ne_of_gt (IsS93.lt (show IsS93 w0 _ g s0_0 t130 from by repeat (first | (with_reducible first | exact HI0.out | apply IsS93.alloc | apply IsS93.drewN | apply IsS93.drew | apply IsS93.set_1 | refine IsS93.far ?_ NB0_113.out _) | exact HI0.out))) : gb132 ≠ g))
    clear HO120 HO128 HI0 BK113 HK HB
    revert n0_ n1_ n2_ n3_ n4_ n5_ n6_ n7_ n8_ n9_ n10_ n11_ n12_
    intro HO120 HO128 HI0 BK113 HK HB BK132 GW132 GE132 NB113_132 NB132_113 NB0_132 NB132_0
    clear hb hbox hg
    refine hK.out _ _ trivial (fun hHeld => ?_)
    clear hK K
    refine norm_ (a' := ?_) ?_ ?_
    rotate_left
    ·show Act.put _ (some 3) _ = _
     simp only [Act.put, List.setIfInBounds_toArray, List.set_cons_zero, List.set_cons_succ, i64_w, i32_w]
     rfl
    exact norm_ (by first | (simp only [putAll, Act.put, List.setIfInBounds_toArray, List.set_cons_zero, List.set_cons_succ]; done) | (simp only [putAll, Act.put, List.setIfInBounds_toArray, List.set_cons_zero, List.set_cons_succ]; rfl)) (hJ1_4_5_7_11_12_14_18 (.slice (some adz_v119) y118.length co28, adz_v119, .slice (some adz_v127) y126.length co29, adz_v127, gb132) _ ⟨HO120.out, HO128.out, ⟨_, rfl⟩, ⟨_, rfl⟩, BK113.out, BK132.out, GW132.out, GE132.out, NB0_132.out, NB132_0.out, NB113_132.out, NB132_113.out, HI0.out, HK.out, HB.out⟩)
set_option maxHeartbeats 8000000 in
set_option maxRecDepth 100000 in
theorem spec_l31Out.j1_4_5_7_11_12_18 (k g : Nat) (s0_0 : List Int) (s0_1 : Int) (w0 w : World) (gb113 : Nat) (t114 t115 t116 t117 t121 t122 t124 t125 t129 t130 : Int) (y118 y126 : List Int) (K : Act → World → Prop) (post : Ending → World → Prop) (hC : spec_l31Out.CX k g s0_0 s0_1 w0 w gb113 t114 t115 t116 t117 t121 t122 t124 t125 t129 t130 y118 y126) (hJ1_4_5_7_9_11_12_18 : spec_l31Out.J1_4_5_7_9_11_12_18 k g s0_0 s0_1 w0 w gb113 t114 t115 t116 t117 t121 t122 t124 t125 t129 t130 y118 y126 K post) (hJ1_4_5_7_11_12_14_18 : spec_l31Out.J1_4_5_7_11_12_14_18 k g s0_0 s0_1 w0 w gb113 t114 t115 t116 t117 t121 t122 t124 t125 t129 t130 y118 y126 K post) : spec_l31Out.J1_4_5_7_11_12_18 k g s0_0 s0_1 w0 w gb113 t114 t115 t116 t117 t121 t122 t124 t125 t129 t130 y118 y126 K post := by
 obtain ⟨HW0, A2, A3, Ny118, A4, A7, Ny126, A8, GW113, GE113, NB0_113, NB113_0, c5b0, c6b0, c9b0, c10b0⟩ := hC
 have HT_ := qM spec_l31Out.tabO
 have HW_ := qM spec_l31Out.bits1
 have pi123 : (0 ≤ (t121 : Int)) = True := eq_true (of_decide_eq_true c5b0)
 have qi123 : (t121 < (y118.length : Int)) = True := eq_true (of_decide_eq_true c6b0)
 have pi131 : (0 ≤ (t129 : Int)) = True := eq_true (of_decide_eq_true c9b0)
 have qi131 : (t129 < (y126.length : Int)) = True := eq_true (of_decide_eq_true c10b0)
 unfold spec_l31Out.J1_4_5_7_9_11_12_18 spec_l31Out.FR spec_l31Out.OPS at hJ1_4_5_7_9_11_12_18
 unfold spec_l31Out.J1_4_5_7_11_12_14_18 spec_l31Out.FR spec_l31Out.OPS at hJ1_4_5_7_11_12_14_18
 unfold spec_l31Out.J1_4_5_7_11_12_18 spec_l31Out.FR spec_l31Out.OPS
 ··skip
   rintro ⟨v119, adz_v119, v127, adz_v127, gb132⟩ w27 ⟨h0_, h1_, h2_, h3_, h4_, h5_, h6_, h7_, h8_, h9_, h10_, h11_, h12_, h13_, h14_⟩
   have n0_ : Aside0 (Kd.R (Kd.int .i64) 3 w27 w.heap.size (fun k_ => some k_ ≠ (v127 : Value).ownBlock) v119 y118) := ⟨h0_⟩
   have n1_ : Aside0 (Kd.R (Kd.int .i64) 3 w27 w.heap.size (fun k_ => some k_ ≠ (v119 : Value).ownBlock) v127 y126) := ⟨h1_⟩
   have n2_ : Aside0 (∃ c_, (v119 : Value) = .slice (some adz_v119) y118.length c_) := ⟨h2_⟩
   have n3_ : Aside0 (∃ c_, (v127 : Value) = .slice (some adz_v127) y126.length c_) := ⟨h3_⟩
   have n4_ : Aside0 (w27.heap[gb113]? = some (.cells #[.int .i64 0, .int .i64 0, .int .i64 0, .int .i64 0] 53 (0, 0))) := ⟨h4_⟩
   have n5_ : Aside0 (w27.heap[gb132]? = some (.cells #[.int .i64 0, .int .i64 0, .int .i64 0, .int .i64 0] 53 (0, 0))) := ⟨h5_⟩
   have n6_ : Aside0 (w.heap.size ≤ gb132) := ⟨h6_⟩
   have n7_ : Aside0 (w0.heap.size ≤ gb132) := ⟨h7_⟩
   have n8_ : Aside0 (g ≠ gb132) := ⟨h8_⟩
   have n9_ : Aside0 (gb132 ≠ g) := ⟨h9_⟩
   have n10_ : Aside0 (gb113 ≠ gb132) := ⟨h10_⟩
   have n11_ : Aside0 (gb132 ≠ gb113) := ⟨h11_⟩
   have n12_ : Aside0 (IsS93 w0 w27 g s0_0 t125) := ⟨h12_⟩
   have n13_ : Aside0 (KeepBut w w27 g none) := ⟨h13_⟩
   have n14_ : Aside0 (Below w0.heap.size w0 w27) := ⟨h14_⟩
   clear h0_ h1_ h2_ h3_ h4_ h5_ h6_ h7_ h8_ h9_ h10_ h11_ h12_ h13_ h14_
   revert n0_ n1_ n2_ n3_ n4_ n5_ n6_ n7_ n8_ n9_ n10_ n11_ n12_ n13_ n14_
   intro HO120 HO128 HA_HO120 HA_HO128 BK113 BK132 GW132 GE132 NB0_132 NB132_0 NB113_132 NB132_113 HI0 HK HB
   have hHeld := trivial
   obtain ⟨co28, eo28⟩ := HA_HO120.out
   clear HA_HO120
   subst eo28
   obtain ⟨co29, eo29⟩ := HA_HO128.out
   clear HA_HO128
   subst eo29
   refine norm_ (a' := ?_) ?_ ?_
   rotate_left
   ·simp only [putAll, Act.put, List.setIfInBounds_toArray, List.set_cons_zero, List.set_cons_succ]
    rfl
   refine two_ (i := 9) (j := 14) (Ni := some 13) (Nj := some 18) spec_l31Out.m14 spec_l31Out.m27 rfl rfl rfl rfl (two_of HT_.out (by kernel_rfl)) (by decide) (by decide) (fun K hK => ?_) (fun K hK => ?_)
   ·skip
    (have p123 : 0 ≤ (t121 : Int) := of_decide_eq_true (by first | (with_reducible assumption) | assumption); have q123 : t121 < (y118.length : Int) := of_decide_eq_true (by first | (with_reducible assumption) | assumption); obtain ⟨ad123, e123, hx123_0⟩ := Kd.at_int (qR HO120.out).2.2 t121 p123 q123; obtain rfl : adz_v119 = ad123 := (by injection e123))
    refine value_ (w1 := ?_) (v := ?_) (by rfl) rfl ?_ ?_
    rotate_left 2
    ·go_simp
     constructor
     ·rfl
     ·rfl
    clear hx123_0
    refine hK.out _ _ trivial (fun hHeld => ?_)
    clear hK K
    refine norm_ (a' := ?_) ?_ ?_
    rotate_left
    ·show Act.put _ (some 13) _ = _
     simp only [Act.put, List.setIfInBounds_toArray, List.set_cons_zero, List.set_cons_succ, i64_w, i32_w]
     rfl
    exact norm_ (by first | (simp only [putAll, Act.put, List.setIfInBounds_toArray, List.set_cons_zero, List.set_cons_succ]; done) | (simp only [putAll, Act.put, List.setIfInBounds_toArray, List.set_cons_zero, List.set_cons_succ]; rfl)) (hJ1_4_5_7_9_11_12_18 (.slice (some adz_v119) y118.length co28, adz_v119, .slice (some adz_v127) y126.length co29, adz_v127, gb132) _ ⟨HO120.out, HO128.out, ⟨_, rfl⟩, ⟨_, rfl⟩, BK113.out, BK132.out, GW132.out, GE132.out, NB0_132.out, NB132_0.out, NB113_132.out, NB132_113.out, HI0.out, HK.out, HB.out⟩)
   ·skip
    refine goes_ Try.func53 (by kernel_rfl) rfl #[.pointer (some ⟨g, 0, none⟩), .int .i64 5] (by rfl) rfl rfl (by (try simp only [List.map_toArray, List.map_cons, List.map_nil]); first | done | rfl | (simp only [List.length_drop, List.length_take]; rfl)) ?_
    with_reducible refine (spec_l30Rd_pick.calls k g s0_0 t125 5 t129 t130 w0 _ ?side1 ?side2 A8.out).mono ?_
    (case side1 => repeat (first | (with_reducible first | exact HI0.out | apply IsS93.alloc | apply IsS93.drewN | apply IsS93.drew | apply IsS93.set_1 | refine IsS93.far ?_ NB0_113.out _ | refine IsS93.far ?_ NB0_132.out _) | exact HI0.out))
    (case side2 => repeat (first | (with_reducible first | exact HB.out | apply yA | apply yN | apply yD | refine yS ?_ (IsS93.ge HI0.out) | refine yS ?_ GE113.out | refine yS ?_ GE132.out) | exact HB.out))
    rintro e w30 ⟨rfl, hi, hb, hk⟩
    refine ⟨_, rfl, ?_⟩
    have n0_ := qM (KeepBut.blk hk (g' := gb113) (o := .cells #[.int .i64 0, .int .i64 0, .int .i64 0, .int .i64 0] 53 (0, 0)) BK113.out NB113_0.out (by simp))
    have n1_ := qM (Kd.R_mono (Kd.R_keep (IsS93.apart (show IsS93 w0 _ g s0_0 t125 from by repeat (first | (with_reducible first | exact HI0.out | apply IsS93.alloc | apply IsS93.drewN | apply IsS93.drew | apply IsS93.set_1 | refine IsS93.far ?_ NB0_113.out _ | refine IsS93.far ?_ NB0_132.out _) | exact HI0.out)) HO120.out (by decide)) hk (fun _ h => h.2)) (fun _ h => h.1))
    have n2_ := qM (Kd.R_mono (Kd.R_keep (IsS93.apart (show IsS93 w0 _ g s0_0 t125 from by repeat (first | (with_reducible first | exact HI0.out | apply IsS93.alloc | apply IsS93.drewN | apply IsS93.drew | apply IsS93.set_1 | refine IsS93.far ?_ NB0_113.out _ | refine IsS93.far ?_ NB0_132.out _) | exact HI0.out)) HO128.out (by decide)) hk (fun _ h => h.2)) (fun _ h => h.1))
    have n3_ := qM (KeepBut.blk hk (g' := gb132) (o := .cells #[.int .i64 0, .int .i64 0, .int .i64 0, .int .i64 0] 53 (0, 0)) BK132.out NB132_0.out (by simp))
    have n4_ := qM (KeepBut.trans HK.out hk (.inl rfl))
    have n5_ := qM (hb)
    have n6_ := qM (hi)
    clear BK113 HO120 HO128 BK132 HK HB HI0
    revert n0_ n1_ n2_ n3_ n4_ n5_ n6_
    intro BK113 HO120 HO128 BK132 HK HB HI0
    (try clear hb)
    (try clear hb2)
    (try clear hk)
    (try clear hi)
    refine hK.out _ _ trivial (fun hHeld => ?_)
    clear hK K
    refine norm_ (a' := ?_) ?_ ?_
    rotate_left
    ·show Act.put _ (some 18) _ = _
     simp only [Act.put, List.setIfInBounds_toArray, List.set_cons_zero, List.set_cons_succ, i64_w, i32_w]
     rfl
    refine pure_ (i := 15) (N := some 19) (v := ?_) (a' := ?_) spec_l31Out.m18 rfl rfl (any_of HT_.out (by kernel_rfl)) (fun _ _ _ h => h) (Or.inl ⟨by rfl, ?_⟩) ?_ ?_
    rotate_left
    ·intro w'
     go_simp
     with_reducible rfl
    rotate_left
    ·simp only [Act.put, List.setIfInBounds_toArray, List.set_cons_zero, List.set_cons_succ, i64_w, i32_w]
     rfl
    exact norm_ (by first | (simp only [putAll, Act.put, List.setIfInBounds_toArray, List.set_cons_zero, List.set_cons_succ]; done) | (simp only [putAll, Act.put, List.setIfInBounds_toArray, List.set_cons_zero, List.set_cons_succ]; rfl)) (hJ1_4_5_7_11_12_14_18 (.slice (some adz_v119) y118.length co28, adz_v119, .slice (some adz_v127) y126.length co29, adz_v127, gb132) _ ⟨HO120.out, HO128.out, ⟨_, rfl⟩, ⟨_, rfl⟩, BK113.out, BK132.out, GW132.out, GE132.out, NB0_132.out, NB132_0.out, NB113_132.out, NB132_113.out, HI0.out, HK.out, HB.out⟩)
set_option maxHeartbeats 8000000 in
set_option maxRecDepth 100000 in
theorem spec_l31Out.j1_4_5_7_11_14_18 (k g : Nat) (s0_0 : List Int) (s0_1 : Int) (w0 w : World) (gb113 : Nat) (t114 t115 t116 t117 t121 t122 t124 t125 t129 t130 : Int) (y118 y126 : List Int) (K : Act → World → Prop) (post : Ending → World → Prop) (hC : spec_l31Out.CX k g s0_0 s0_1 w0 w gb113 t114 t115 t116 t117 t121 t122 t124 t125 t129 t130 y118 y126) (hJ1_4_5_7_9_11_14_18 : spec_l31Out.J1_4_5_7_9_11_14_18 k g s0_0 s0_1 w0 w gb113 t114 t115 t116 t117 t121 t122 t124 t125 t129 t130 y118 y126 K post) (hJ1_4_5_7_11_12_14_18 : spec_l31Out.J1_4_5_7_11_12_14_18 k g s0_0 s0_1 w0 w gb113 t114 t115 t116 t117 t121 t122 t124 t125 t129 t130 y118 y126 K post) : spec_l31Out.J1_4_5_7_11_14_18 k g s0_0 s0_1 w0 w gb113 t114 t115 t116 t117 t121 t122 t124 t125 t129 t130 y118 y126 K post := by
 obtain ⟨HW0, A2, A3, Ny118, A4, A7, Ny126, A8, GW113, GE113, NB0_113, NB113_0, c5b0, c6b0, c9b0, c10b0⟩ := hC
 have HT_ := qM spec_l31Out.tabO
 have HW_ := qM spec_l31Out.bits1
 have pi123 : (0 ≤ (t121 : Int)) = True := eq_true (of_decide_eq_true c5b0)
 have qi123 : (t121 < (y118.length : Int)) = True := eq_true (of_decide_eq_true c6b0)
 have pi131 : (0 ≤ (t129 : Int)) = True := eq_true (of_decide_eq_true c9b0)
 have qi131 : (t129 < (y126.length : Int)) = True := eq_true (of_decide_eq_true c10b0)
 unfold spec_l31Out.J1_4_5_7_9_11_14_18 spec_l31Out.FR spec_l31Out.OPS at hJ1_4_5_7_9_11_14_18
 unfold spec_l31Out.J1_4_5_7_11_12_14_18 spec_l31Out.FR spec_l31Out.OPS at hJ1_4_5_7_11_12_14_18
 unfold spec_l31Out.J1_4_5_7_11_14_18 spec_l31Out.FR spec_l31Out.OPS
 ··skip
   rintro ⟨v119, adz_v119, gb132⟩ w25 ⟨h0_, h1_, h2_, h3_, h4_, h5_, h6_, h7_, h8_, h9_, h10_, h11_, h12_⟩
   have n0_ : Aside0 (Kd.R (Kd.int .i64) 3 w25 w.heap.size (fun _ => True) v119 y118) := ⟨h0_⟩
   have n1_ : Aside0 (∃ c_, (v119 : Value) = .slice (some adz_v119) y118.length c_) := ⟨h1_⟩
   have n2_ : Aside0 (w25.heap[gb113]? = some (.cells #[.int .i64 0, .int .i64 0, .int .i64 0, .int .i64 0] 53 (0, 0))) := ⟨h2_⟩
   have n3_ : Aside0 (w25.heap[gb132]? = some (.cells #[.int .i64 0, .int .i64 0, .int .i64 0, .int .i64 0] 53 (0, 0))) := ⟨h3_⟩
   have n4_ : Aside0 (w.heap.size ≤ gb132) := ⟨h4_⟩
   have n5_ : Aside0 (w0.heap.size ≤ gb132) := ⟨h5_⟩
   have n6_ : Aside0 (g ≠ gb132) := ⟨h6_⟩
   have n7_ : Aside0 (gb132 ≠ g) := ⟨h7_⟩
   have n8_ : Aside0 (gb113 ≠ gb132) := ⟨h8_⟩
   have n9_ : Aside0 (gb132 ≠ gb113) := ⟨h9_⟩
   have n10_ : Aside0 (IsS93 w0 w25 g s0_0 t130) := ⟨h10_⟩
   have n11_ : Aside0 (KeepBut w w25 g none) := ⟨h11_⟩
   have n12_ : Aside0 (Below w0.heap.size w0 w25) := ⟨h12_⟩
   clear h0_ h1_ h2_ h3_ h4_ h5_ h6_ h7_ h8_ h9_ h10_ h11_ h12_
   revert n0_ n1_ n2_ n3_ n4_ n5_ n6_ n7_ n8_ n9_ n10_ n11_ n12_
   intro HO120 HA_HO120 BK113 BK132 GW132 GE132 NB0_132 NB132_0 NB113_132 NB132_113 HI0 HK HB
   have hHeld := trivial
   obtain ⟨co26, eo26⟩ := HA_HO120.out
   clear HA_HO120
   subst eo26
   refine norm_ (a' := ?_) ?_ ?_
   rotate_left
   ·simp only [putAll, Act.put, List.setIfInBounds_toArray, List.set_cons_zero, List.set_cons_succ]
    rfl
   refine two_ (i := 9) (j := 12) (Ni := some 13) (Nj := some 16) spec_l31Out.m16 spec_l31Out.m27 rfl rfl rfl rfl (two_of HT_.out (by kernel_rfl)) (by decide) (by decide) (fun K hK => ?_) (fun K hK => ?_)
   ·skip
    (have p123 : 0 ≤ (t121 : Int) := of_decide_eq_true (by first | (with_reducible assumption) | assumption); have q123 : t121 < (y118.length : Int) := of_decide_eq_true (by first | (with_reducible assumption) | assumption); obtain ⟨ad123, e123, hx123_0⟩ := Kd.at_int (qR HO120.out).2.2 t121 p123 q123; obtain rfl : adz_v119 = ad123 := (by injection e123))
    refine value_ (w1 := ?_) (v := ?_) (by rfl) rfl ?_ ?_
    rotate_left 2
    ·go_simp
     constructor
     ·rfl
     ·rfl
    clear hx123_0
    refine hK.out _ _ trivial (fun hHeld => ?_)
    clear hK K
    refine norm_ (a' := ?_) ?_ ?_
    rotate_left
    ·show Act.put _ (some 13) _ = _
     simp only [Act.put, List.setIfInBounds_toArray, List.set_cons_zero, List.set_cons_succ, i64_w, i32_w]
     rfl
    exact norm_ (by first | (simp only [putAll, Act.put, List.setIfInBounds_toArray, List.set_cons_zero, List.set_cons_succ]; done) | (simp only [putAll, Act.put, List.setIfInBounds_toArray, List.set_cons_zero, List.set_cons_succ]; rfl)) (hJ1_4_5_7_9_11_14_18 (.slice (some adz_v119) y118.length co26, adz_v119, gb132) _ ⟨HO120.out, ⟨_, rfl⟩, BK113.out, BK132.out, GW132.out, GE132.out, NB0_132.out, NB132_0.out, NB113_132.out, NB132_113.out, HI0.out, HK.out, HB.out⟩)
   ·skip
    refine Kd.R_lit_step (Kd.int .i64) _ 3 ?hg (N := 16) ?hd (xs := ([0, 1, 14, 15, t124] : List Int)) (inner := [.int .i64 0, .int .i64 1, .int .i64 14, .int .i64 15, .int .i64 t124]) (ok := fun _ => True) (okp := fun _ => True) ?hr ?hp (fun _ hk => hk) trivial (Below.refl _ _) (Nat.le_refl _) (by simp) ?_; (case hd => rfl); (case hg => rfl); (case hr => first | (go_simp; done) | (go_simp; rfl)); (case hp => exact (Reps.one (show Kd.M (Kd.int .i64) _ _ _ 0 [.int .i64 0] from rfl) (Reps.one (show Kd.M (Kd.int .i64) _ _ _ 1 [.int .i64 1] from rfl) (Reps.one (show Kd.M (Kd.int .i64) _ _ _ 14 [.int .i64 14] from rfl) (Reps.one (show Kd.M (Kd.int .i64) _ _ _ 15 [.int .i64 15] from rfl) (Reps.one (show Kd.M (Kd.int .i64) _ _ _ t124 [.int .i64 t124] from rfl) (Reps.none _ _)))))))
    intro v127 w27 ho28 hb hg_ hnew_
    clear hg_ hnew_
    (first | rw [← Ny126.out] at ho28 | (simp only [Int.reduceToNat] at ho28; rw [← Ny126.out] at ho28))
    have n0_ := qM (Kd.R_elder' HO120.out (Kd.R_base ho28) hb)
    have n1_ := qM (Kd.R_lower (Kd.R_new' ho28 (Kd.R_lt HO120.out)) (keep_size (w := w) (g := g) (row := none) HK.out))
    have n2_ := qM (IsS93.below HI0.out hb)
    have n3_ := qM (blk_below (g := gb113) (o := .cells #[.int .i64 0, .int .i64 0, .int .i64 0, .int .i64 0] 53 (0, 0)) BK113.out hb)
    have n4_ := qM (blk_below (g := gb132) (o := .cells #[.int .i64 0, .int .i64 0, .int .i64 0, .int .i64 0] 53 (0, 0)) BK132.out hb)
    have n5_ := qM (KeepBut.trans HK.out (KeepBut.of_below hb g none) (.inl rfl))
    have n6_ := qM (below_step HB.out hb)
    clear HO120 HI0 BK113 BK132 HK HB
    revert n0_ n1_ n2_ n3_ n4_ n5_ n6_
    intro HO120 HO128 HI0 BK113 BK132 HK HB
    clear hb ho28
    obtain ⟨Ao29, co29, eo29⟩ := Kd.R_slice HO128.out
    subst eo29
    obtain ⟨ado29, fo29, _⟩ := Kd.at_int (qR HO128.out).2.2 0 (by decide) (by rw [Ny126.out]; simp)
    cases fo29
    refine hK.out _ _ trivial (fun hHeld => ?_)
    clear hK K
    refine norm_ (a' := ?_) ?_ ?_
    rotate_left
    ·show Act.put _ (some 16) _ = _
     simp only [Act.put, List.setIfInBounds_toArray, List.set_cons_zero, List.set_cons_succ, i64_w, i32_w]
     rfl
    refine pure_ (i := 15) (N := some 19) (v := ?_) (a' := ?_) spec_l31Out.m18 rfl rfl (any_of HT_.out (by kernel_rfl)) (fun _ _ _ h => h) (Or.inl ⟨by rfl, ?_⟩) ?_ ?_
    rotate_left
    ·intro w'
     go_simp
     with_reducible rfl
    rotate_left
    ·simp only [Act.put, List.setIfInBounds_toArray, List.set_cons_zero, List.set_cons_succ, i64_w, i32_w]
     rfl
    exact norm_ (by first | (simp only [putAll, Act.put, List.setIfInBounds_toArray, List.set_cons_zero, List.set_cons_succ]; done) | (simp only [putAll, Act.put, List.setIfInBounds_toArray, List.set_cons_zero, List.set_cons_succ]; rfl)) (hJ1_4_5_7_11_12_14_18 (.slice (some adz_v119) y118.length co26, adz_v119, .slice (some ado29) y126.length co29, ado29, gb132) _ ⟨(by (with_reducible repeat (first | apply qA | apply qN | apply qD)); exact Kd.R_mono HO120.out (fun _ hk => hk.2)), (by (with_reducible repeat (first | apply qA | apply qN | apply qD)); exact Kd.R_mono HO128.out (fun _ hk => hk.2)), ⟨_, rfl⟩, ⟨_, rfl⟩, BK113.out, BK132.out, GW132.out, GE132.out, NB0_132.out, NB132_0.out, NB113_132.out, NB132_113.out, HI0.out, HK.out, HB.out⟩)
set_option maxHeartbeats 8000000 in
set_option maxRecDepth 100000 in
theorem spec_l31Out.j1_4_7_11_12_14_16 (k g : Nat) (s0_0 : List Int) (s0_1 : Int) (w0 w : World) (gb113 : Nat) (t114 t115 t116 t117 t121 t122 t124 t125 t129 t130 : Int) (y118 y126 : List Int) (K : Act → World → Prop) (post : Ending → World → Prop) (hC : spec_l31Out.CX k g s0_0 s0_1 w0 w gb113 t114 t115 t116 t117 t121 t122 t124 t125 t129 t130 y118 y126) (hJ1_4_5_7_11_12_14_16 : spec_l31Out.J1_4_5_7_11_12_14_16 k g s0_0 s0_1 w0 w gb113 t114 t115 t116 t117 t121 t122 t124 t125 t129 t130 y118 y126 K post) (hJ1_4_7_11_12_14_16_18 : spec_l31Out.J1_4_7_11_12_14_16_18 k g s0_0 s0_1 w0 w gb113 t114 t115 t116 t117 t121 t122 t124 t125 t129 t130 y118 y126 K post) : spec_l31Out.J1_4_7_11_12_14_16 k g s0_0 s0_1 w0 w gb113 t114 t115 t116 t117 t121 t122 t124 t125 t129 t130 y118 y126 K post := by
 obtain ⟨HW0, A2, A3, Ny118, A4, A7, Ny126, A8, GW113, GE113, NB0_113, NB113_0, c5b0, c6b0, c9b0, c10b0⟩ := hC
 have HT_ := qM spec_l31Out.tabO
 have HW_ := qM spec_l31Out.bits1
 have pi123 : (0 ≤ (t121 : Int)) = True := eq_true (of_decide_eq_true c5b0)
 have qi123 : (t121 < (y118.length : Int)) = True := eq_true (of_decide_eq_true c6b0)
 have pi131 : (0 ≤ (t129 : Int)) = True := eq_true (of_decide_eq_true c9b0)
 have qi131 : (t129 < (y126.length : Int)) = True := eq_true (of_decide_eq_true c10b0)
 unfold spec_l31Out.J1_4_5_7_11_12_14_16 spec_l31Out.FR spec_l31Out.OPS at hJ1_4_5_7_11_12_14_16
 unfold spec_l31Out.J1_4_7_11_12_14_16_18 spec_l31Out.FR spec_l31Out.OPS at hJ1_4_7_11_12_14_16_18
 unfold spec_l31Out.J1_4_7_11_12_14_16 spec_l31Out.FR spec_l31Out.OPS
 ··skip
   rintro ⟨v127, adz_v127⟩ w24 ⟨h0_, h1_, h2_, h3_, h4_, h5_⟩
   have n0_ : Aside0 (Kd.R (Kd.int .i64) 3 w24 w.heap.size (fun _ => True) v127 y126) := ⟨h0_⟩
   have n1_ : Aside0 (∃ c_, (v127 : Value) = .slice (some adz_v127) y126.length c_) := ⟨h1_⟩
   have n2_ : Aside0 (w24.heap[gb113]? = some (.cells #[.int .i64 0, .int .i64 0, .int .i64 0, .int .i64 0] 53 (0, 0))) := ⟨h2_⟩
   have n3_ : Aside0 (IsS93 w0 w24 g s0_0 t130) := ⟨h3_⟩
   have n4_ : Aside0 (KeepBut w w24 g none) := ⟨h4_⟩
   have n5_ : Aside0 (Below w0.heap.size w0 w24) := ⟨h5_⟩
   clear h0_ h1_ h2_ h3_ h4_ h5_
   revert n0_ n1_ n2_ n3_ n4_ n5_
   intro HO128 HA_HO128 BK113 HI0 HK HB
   have hHeld := trivial
   obtain ⟨co25, eo25⟩ := HA_HO128.out
   clear HA_HO128
   subst eo25
   refine norm_ (a' := ?_) ?_ ?_
   rotate_left
   ·simp only [putAll, Act.put, List.setIfInBounds_toArray, List.set_cons_zero, List.set_cons_succ]
    rfl
   refine two_ (i := 5) (j := 18) (Ni := some 9) (Nj := some 3) spec_l31Out.m30 spec_l31Out.m19 rfl rfl rfl rfl (two_of HT_.out (by kernel_rfl)) (by decide) (by decide) (fun K hK => ?_) (fun K hK => ?_)
   ·skip
    refine Kd.R_lit_step (Kd.int .i64) _ 3 ?hg (N := 9) ?hd (xs := ([0, 1, 2, 199, 200] : List Int)) (inner := [.int .i64 0, .int .i64 1, .int .i64 2, .int .i64 199, .int .i64 200]) (ok := fun _ => True) (okp := fun _ => True) ?hr ?hp (fun _ hk => hk) trivial (Below.refl _ _) (Nat.le_refl _) (by simp) ?_; (case hd => rfl); (case hg => rfl); (case hr => first | (go_simp; done) | (go_simp; rfl)); (case hp => exact (Reps.one (show Kd.M (Kd.int .i64) _ _ _ 0 [.int .i64 0] from rfl) (Reps.one (show Kd.M (Kd.int .i64) _ _ _ 1 [.int .i64 1] from rfl) (Reps.one (show Kd.M (Kd.int .i64) _ _ _ 2 [.int .i64 2] from rfl) (Reps.one (show Kd.M (Kd.int .i64) _ _ _ 199 [.int .i64 199] from rfl) (Reps.one (show Kd.M (Kd.int .i64) _ _ _ 200 [.int .i64 200] from rfl) (Reps.none _ _)))))))
    intro v119 w26 ho27 hb hg_ hnew_
    clear hg_ hnew_
    (first | rw [← Ny118.out] at ho27 | (simp only [Int.reduceToNat] at ho27; rw [← Ny118.out] at ho27))
    have n0_ := qM (Kd.R_elder' HO128.out (Kd.R_base ho27) hb)
    have n1_ := qM (Kd.R_lower (Kd.R_new' ho27 (Kd.R_lt HO128.out)) (keep_size (w := w) (g := g) (row := none) HK.out))
    have n2_ := qM (IsS93.below HI0.out hb)
    have n3_ := qM (blk_below (g := gb113) (o := .cells #[.int .i64 0, .int .i64 0, .int .i64 0, .int .i64 0] 53 (0, 0)) BK113.out hb)
    have n4_ := qM (KeepBut.trans HK.out (KeepBut.of_below hb g none) (.inl rfl))
    have n5_ := qM (below_step HB.out hb)
    clear HO128 HI0 BK113 HK HB
    revert n0_ n1_ n2_ n3_ n4_ n5_
    intro HO128 HO120 HI0 BK113 HK HB
    clear hb ho27
    obtain ⟨Ao28, co28, eo28⟩ := Kd.R_slice HO120.out
    subst eo28
    obtain ⟨ado28, fo28, _⟩ := Kd.at_int (qR HO120.out).2.2 0 (by decide) (by rw [Ny118.out]; simp)
    cases fo28
    refine hK.out _ _ trivial (fun hHeld => ?_)
    clear hK K
    refine norm_ (a' := ?_) ?_ ?_
    rotate_left
    ·show Act.put _ (some 9) _ = _
     simp only [Act.put, List.setIfInBounds_toArray, List.set_cons_zero, List.set_cons_succ, i64_w, i32_w]
     rfl
    refine pure_ (i := 8) (N := some 12) (v := ?_) (a' := ?_) spec_l31Out.m17 rfl rfl (any_of HT_.out (by kernel_rfl)) (fun _ _ _ h => h) (Or.inl ⟨by rfl, ?_⟩) ?_ ?_
    rotate_left
    ·intro w'
     go_simp
     with_reducible rfl
    rotate_left
    ·simp only [Act.put, List.setIfInBounds_toArray, List.set_cons_zero, List.set_cons_succ, i64_w, i32_w]
     rfl
    exact norm_ (by first | (simp only [putAll, Act.put, List.setIfInBounds_toArray, List.set_cons_zero, List.set_cons_succ]; done) | (simp only [putAll, Act.put, List.setIfInBounds_toArray, List.set_cons_zero, List.set_cons_succ]; rfl)) (hJ1_4_5_7_11_12_14_16 (.slice (some ado28) y118.length co28, ado28, .slice (some adz_v127) y126.length co25, adz_v127) _ ⟨(by (with_reducible repeat (first | apply qA | apply qN | apply qD)); exact Kd.R_mono HO120.out (fun _ hk => hk.2)), (by (with_reducible repeat (first | apply qA | apply qN | apply qD)); exact Kd.R_mono HO128.out (fun _ hk => hk.2)), ⟨_, rfl⟩, ⟨_, rfl⟩, BK113.out, HI0.out, HK.out, HB.out⟩)
   ·skip
    refine box_step ?hg (N := 3) ?hd (cs := #[.int .i64 0, .int .i64 0, .int .i64 0, .int .i64 0]) (t := 53) ?hr ?_; (case hd => rfl); (case hg => rfl); (case hr => first | (go_simp; done) | (go_simp; rfl))
    intro gb132 hg w26 hbox hb
    have n0_ := qM (Kd.R_below HO128.out hb)
    have n1_ := qM (IsS93.below HI0.out hb)
    have n2_ := qM (blk_below (g := gb113) (o := .cells #[.int .i64 0, .int .i64 0, .int .i64 0, .int .i64 0] 53 (0, 0)) BK113.out hb)
    have n3_ := qM (KeepBut.trans HK.out (KeepBut.of_below hb g none) (.inl rfl))
    have n4_ := qM (below_step HB.out hb)
    have n5_ := qM (hbox)
    have n6_ := qM ((by rw [hg]; exact (keep_size (w := w) (g := g) (row := none) HK.out) : w.heap.size ≤ gb132))
    have n7_ := qM ((Nat.le_trans HW0.out (by rw [hg]; exact (keep_size (w := w) (g := g) (row := none) HK.out) : w.heap.size ≤ gb132) : w0.heap.size ≤ gb132))
    have n8_ := qM ((by rw [hg]; exact Nat.ne_of_lt (blk_lt (g := gb113) (o := .cells #[.int .i64 0, .int .i64 0, .int .i64 0, .int .i64 0] 53 (0, 0)) BK113.out) : gb113 ≠ gb132))
    have n9_ := qM ((by rw [hg]; exact Nat.ne_of_gt (blk_lt (g := gb113) (o := .cells #[.int .i64 0, .int .i64 0, .int .i64 0, .int .i64 0] 53 (0, 0)) BK113.out) : gb132 ≠ gb113))
    have n10_ := qM ((by rw [hg]; exact Nat.ne_of_lt (IsS93.lt (show IsS93 w0 _ g s0_0 t130 from by repeat (first | (with_reducible first | exact HI0.out | apply IsS93.alloc | apply IsS93.drewN | apply IsS93.drew | apply IsS93.set_1 | refine IsS93.far ?_ NB0_113.out _) | exact HI0.out))) : g ≠ gb132))
    have n11_ := qM ((by rw [hg]; exact Nat.ne_of_gt (IsS93.lt (show IsS93 w0 _ g s0_0 t130 from by repeat (first | (with_reducible first | exact HI0.out | apply IsS93.alloc | apply IsS93.drewN | apply IsS93.drew | apply IsS93.set_1 | refine IsS93.far ?_ NB0_113.out _) | exact HI0.out))) : gb132 ≠ g))
    clear HO128 HI0 BK113 HK HB
    revert n0_ n1_ n2_ n3_ n4_ n5_ n6_ n7_ n8_ n9_ n10_ n11_
    intro HO128 HI0 BK113 HK HB BK132 GW132 GE132 NB113_132 NB132_113 NB0_132 NB132_0
    clear hb hbox hg
    refine hK.out _ _ trivial (fun hHeld => ?_)
    clear hK K
    refine norm_ (a' := ?_) ?_ ?_
    rotate_left
    ·show Act.put _ (some 3) _ = _
     simp only [Act.put, List.setIfInBounds_toArray, List.set_cons_zero, List.set_cons_succ, i64_w, i32_w]
     rfl
    exact norm_ (by first | (simp only [putAll, Act.put, List.setIfInBounds_toArray, List.set_cons_zero, List.set_cons_succ]; done) | (simp only [putAll, Act.put, List.setIfInBounds_toArray, List.set_cons_zero, List.set_cons_succ]; rfl)) (hJ1_4_7_11_12_14_16_18 (.slice (some adz_v127) y126.length co25, adz_v127, gb132) _ ⟨HO128.out, ⟨_, rfl⟩, BK113.out, BK132.out, GW132.out, GE132.out, NB0_132.out, NB132_0.out, NB113_132.out, NB132_113.out, HI0.out, HK.out, HB.out⟩)
set_option maxHeartbeats 8000000 in
set_option maxRecDepth 100000 in
theorem spec_l31Out.j1_4_7_11_12_14_18 (k g : Nat) (s0_0 : List Int) (s0_1 : Int) (w0 w : World) (gb113 : Nat) (t114 t115 t116 t117 t121 t122 t124 t125 t129 t130 : Int) (y118 y126 : List Int) (K : Act → World → Prop) (post : Ending → World → Prop) (hC : spec_l31Out.CX k g s0_0 s0_1 w0 w gb113 t114 t115 t116 t117 t121 t122 t124 t125 t129 t130 y118 y126) (hJ1_4_5_7_11_12_14_18 : spec_l31Out.J1_4_5_7_11_12_14_18 k g s0_0 s0_1 w0 w gb113 t114 t115 t116 t117 t121 t122 t124 t125 t129 t130 y118 y126 K post) (hJ1_4_7_11_12_14_16_18 : spec_l31Out.J1_4_7_11_12_14_16_18 k g s0_0 s0_1 w0 w gb113 t114 t115 t116 t117 t121 t122 t124 t125 t129 t130 y118 y126 K post) : spec_l31Out.J1_4_7_11_12_14_18 k g s0_0 s0_1 w0 w gb113 t114 t115 t116 t117 t121 t122 t124 t125 t129 t130 y118 y126 K post := by
 obtain ⟨HW0, A2, A3, Ny118, A4, A7, Ny126, A8, GW113, GE113, NB0_113, NB113_0, c5b0, c6b0, c9b0, c10b0⟩ := hC
 have HT_ := qM spec_l31Out.tabO
 have HW_ := qM spec_l31Out.bits1
 have pi123 : (0 ≤ (t121 : Int)) = True := eq_true (of_decide_eq_true c5b0)
 have qi123 : (t121 < (y118.length : Int)) = True := eq_true (of_decide_eq_true c6b0)
 have pi131 : (0 ≤ (t129 : Int)) = True := eq_true (of_decide_eq_true c9b0)
 have qi131 : (t129 < (y126.length : Int)) = True := eq_true (of_decide_eq_true c10b0)
 unfold spec_l31Out.J1_4_5_7_11_12_14_18 spec_l31Out.FR spec_l31Out.OPS at hJ1_4_5_7_11_12_14_18
 unfold spec_l31Out.J1_4_7_11_12_14_16_18 spec_l31Out.FR spec_l31Out.OPS at hJ1_4_7_11_12_14_16_18
 unfold spec_l31Out.J1_4_7_11_12_14_18 spec_l31Out.FR spec_l31Out.OPS
 ··skip
   rintro ⟨v127, adz_v127, gb132⟩ w25 ⟨h0_, h1_, h2_, h3_, h4_, h5_, h6_, h7_, h8_, h9_, h10_, h11_, h12_⟩
   have n0_ : Aside0 (Kd.R (Kd.int .i64) 3 w25 w.heap.size (fun _ => True) v127 y126) := ⟨h0_⟩
   have n1_ : Aside0 (∃ c_, (v127 : Value) = .slice (some adz_v127) y126.length c_) := ⟨h1_⟩
   have n2_ : Aside0 (w25.heap[gb113]? = some (.cells #[.int .i64 0, .int .i64 0, .int .i64 0, .int .i64 0] 53 (0, 0))) := ⟨h2_⟩
   have n3_ : Aside0 (w25.heap[gb132]? = some (.cells #[.int .i64 0, .int .i64 0, .int .i64 0, .int .i64 0] 53 (0, 0))) := ⟨h3_⟩
   have n4_ : Aside0 (w.heap.size ≤ gb132) := ⟨h4_⟩
   have n5_ : Aside0 (w0.heap.size ≤ gb132) := ⟨h5_⟩
   have n6_ : Aside0 (g ≠ gb132) := ⟨h6_⟩
   have n7_ : Aside0 (gb132 ≠ g) := ⟨h7_⟩
   have n8_ : Aside0 (gb113 ≠ gb132) := ⟨h8_⟩
   have n9_ : Aside0 (gb132 ≠ gb113) := ⟨h9_⟩
   have n10_ : Aside0 (IsS93 w0 w25 g s0_0 t130) := ⟨h10_⟩
   have n11_ : Aside0 (KeepBut w w25 g none) := ⟨h11_⟩
   have n12_ : Aside0 (Below w0.heap.size w0 w25) := ⟨h12_⟩
   clear h0_ h1_ h2_ h3_ h4_ h5_ h6_ h7_ h8_ h9_ h10_ h11_ h12_
   revert n0_ n1_ n2_ n3_ n4_ n5_ n6_ n7_ n8_ n9_ n10_ n11_ n12_
   intro HO128 HA_HO128 BK113 BK132 GW132 GE132 NB0_132 NB132_0 NB113_132 NB132_113 HI0 HK HB
   have hHeld := trivial
   obtain ⟨co26, eo26⟩ := HA_HO128.out
   clear HA_HO128
   subst eo26
   refine norm_ (a' := ?_) ?_ ?_
   rotate_left
   ·simp only [putAll, Act.put, List.setIfInBounds_toArray, List.set_cons_zero, List.set_cons_succ]
    rfl
   refine two_ (i := 5) (j := 16) (Ni := some 9) (Nj := some 20) spec_l31Out.m32 spec_l31Out.m19 rfl rfl rfl rfl (two_of HT_.out (by kernel_rfl)) (by decide) (by decide) (fun K hK => ?_) (fun K hK => ?_)
   ·skip
    refine Kd.R_lit_step (Kd.int .i64) _ 3 ?hg (N := 9) ?hd (xs := ([0, 1, 2, 199, 200] : List Int)) (inner := [.int .i64 0, .int .i64 1, .int .i64 2, .int .i64 199, .int .i64 200]) (ok := fun _ => True) (okp := fun _ => True) ?hr ?hp (fun _ hk => hk) trivial (Below.refl _ _) (Nat.le_refl _) (by simp) ?_; (case hd => rfl); (case hg => rfl); (case hr => first | (go_simp; done) | (go_simp; rfl)); (case hp => exact (Reps.one (show Kd.M (Kd.int .i64) _ _ _ 0 [.int .i64 0] from rfl) (Reps.one (show Kd.M (Kd.int .i64) _ _ _ 1 [.int .i64 1] from rfl) (Reps.one (show Kd.M (Kd.int .i64) _ _ _ 2 [.int .i64 2] from rfl) (Reps.one (show Kd.M (Kd.int .i64) _ _ _ 199 [.int .i64 199] from rfl) (Reps.one (show Kd.M (Kd.int .i64) _ _ _ 200 [.int .i64 200] from rfl) (Reps.none _ _)))))))
    intro v119 w27 ho28 hb hg_ hnew_
    clear hg_ hnew_
    (first | rw [← Ny118.out] at ho28 | (simp only [Int.reduceToNat] at ho28; rw [← Ny118.out] at ho28))
    have n0_ := qM (Kd.R_elder' HO128.out (Kd.R_base ho28) hb)
    have n1_ := qM (Kd.R_lower (Kd.R_new' ho28 (Kd.R_lt HO128.out)) (keep_size (w := w) (g := g) (row := none) HK.out))
    have n2_ := qM (IsS93.below HI0.out hb)
    have n3_ := qM (blk_below (g := gb113) (o := .cells #[.int .i64 0, .int .i64 0, .int .i64 0, .int .i64 0] 53 (0, 0)) BK113.out hb)
    have n4_ := qM (blk_below (g := gb132) (o := .cells #[.int .i64 0, .int .i64 0, .int .i64 0, .int .i64 0] 53 (0, 0)) BK132.out hb)
    have n5_ := qM (KeepBut.trans HK.out (KeepBut.of_below hb g none) (.inl rfl))
    have n6_ := qM (below_step HB.out hb)
    clear HO128 HI0 BK113 BK132 HK HB
    revert n0_ n1_ n2_ n3_ n4_ n5_ n6_
    intro HO128 HO120 HI0 BK113 BK132 HK HB
    clear hb ho28
    obtain ⟨Ao29, co29, eo29⟩ := Kd.R_slice HO120.out
    subst eo29
    obtain ⟨ado29, fo29, _⟩ := Kd.at_int (qR HO120.out).2.2 0 (by decide) (by rw [Ny118.out]; simp)
    cases fo29
    refine hK.out _ _ trivial (fun hHeld => ?_)
    clear hK K
    refine norm_ (a' := ?_) ?_ ?_
    rotate_left
    ·show Act.put _ (some 9) _ = _
     simp only [Act.put, List.setIfInBounds_toArray, List.set_cons_zero, List.set_cons_succ, i64_w, i32_w]
     rfl
    refine pure_ (i := 8) (N := some 12) (v := ?_) (a' := ?_) spec_l31Out.m18 rfl rfl (any_of HT_.out (by kernel_rfl)) (fun _ _ _ h => h) (Or.inl ⟨by rfl, ?_⟩) ?_ ?_
    rotate_left
    ·intro w'
     go_simp
     with_reducible rfl
    rotate_left
    ·simp only [Act.put, List.setIfInBounds_toArray, List.set_cons_zero, List.set_cons_succ, i64_w, i32_w]
     rfl
    exact norm_ (by first | (simp only [putAll, Act.put, List.setIfInBounds_toArray, List.set_cons_zero, List.set_cons_succ]; done) | (simp only [putAll, Act.put, List.setIfInBounds_toArray, List.set_cons_zero, List.set_cons_succ]; rfl)) (hJ1_4_5_7_11_12_14_18 (.slice (some ado29) y118.length co29, ado29, .slice (some adz_v127) y126.length co26, adz_v127, gb132) _ ⟨(by (with_reducible repeat (first | apply qA | apply qN | apply qD)); exact Kd.R_mono HO120.out (fun _ hk => hk.2)), (by (with_reducible repeat (first | apply qA | apply qN | apply qD)); exact Kd.R_mono HO128.out (fun _ hk => hk.2)), ⟨_, rfl⟩, ⟨_, rfl⟩, BK113.out, BK132.out, GW132.out, GE132.out, NB0_132.out, NB132_0.out, NB113_132.out, NB132_113.out, HI0.out, HK.out, HB.out⟩)
   ·skip
    (have p131 : 0 ≤ (t129 : Int) := of_decide_eq_true (by first | (with_reducible assumption) | assumption); have q131 : t129 < (y126.length : Int) := of_decide_eq_true (by first | (with_reducible assumption) | assumption); obtain ⟨ad131, e131, hx131_0⟩ := Kd.at_int (qR HO128.out).2.2 t129 p131 q131; obtain rfl : adz_v127 = ad131 := (by injection e131))
    refine value_ (w1 := ?_) (v := ?_) (by rfl) rfl ?_ ?_
    rotate_left 2
    ·go_simp
     constructor
     ·rfl
     ·rfl
    clear hx131_0
    refine hK.out _ _ trivial (fun hHeld => ?_)
    clear hK K
    refine norm_ (a' := ?_) ?_ ?_
    rotate_left
    ·show Act.put _ (some 20) _ = _
     simp only [Act.put, List.setIfInBounds_toArray, List.set_cons_zero, List.set_cons_succ, i64_w, i32_w]
     rfl
    exact norm_ (by first | (simp only [putAll, Act.put, List.setIfInBounds_toArray, List.set_cons_zero, List.set_cons_succ]; done) | (simp only [putAll, Act.put, List.setIfInBounds_toArray, List.set_cons_zero, List.set_cons_succ]; rfl)) (hJ1_4_7_11_12_14_16_18 (.slice (some adz_v127) y126.length co26, adz_v127, gb132) _ ⟨HO128.out, ⟨_, rfl⟩, BK113.out, BK132.out, GW132.out, GE132.out, NB0_132.out, NB132_0.out, NB113_132.out, NB132_113.out, HI0.out, HK.out, HB.out⟩)
set_option maxHeartbeats 8000000 in
set_option maxRecDepth 100000 in
theorem spec_l31Out.j1_4_5_7_9_11 (k g : Nat) (s0_0 : List Int) (s0_1 : Int) (w0 w : World) (gb113 : Nat) (t114 t115 t116 t117 t121 t122 t124 t125 t129 t130 : Int) (y118 y126 : List Int) (K : Act → World → Prop) (post : Ending → World → Prop) (hC : spec_l31Out.CX k g s0_0 s0_1 w0 w gb113 t114 t115 t116 t117 t121 t122 t124 t125 t129 t130 y118 y126) (hJ1_4_5_7_9_11_12 : spec_l31Out.J1_4_5_7_9_11_12 k g s0_0 s0_1 w0 w gb113 t114 t115 t116 t117 t121 t122 t124 t125 t129 t130 y118 y126 K post) (hJ1_4_5_7_9_11_14 : spec_l31Out.J1_4_5_7_9_11_14 k g s0_0 s0_1 w0 w gb113 t114 t115 t116 t117 t121 t122 t124 t125 t129 t130 y118 y126 K post) (hJ1_4_5_7_9_11_18 : spec_l31Out.J1_4_5_7_9_11_18 k g s0_0 s0_1 w0 w gb113 t114 t115 t116 t117 t121 t122 t124 t125 t129 t130 y118 y126 K post) : spec_l31Out.J1_4_5_7_9_11 k g s0_0 s0_1 w0 w gb113 t114 t115 t116 t117 t121 t122 t124 t125 t129 t130 y118 y126 K post := by
 obtain ⟨HW0, A2, A3, Ny118, A4, A7, Ny126, A8, GW113, GE113, NB0_113, NB113_0, c5b0, c6b0, c9b0, c10b0⟩ := hC
 have HT_ := qM spec_l31Out.tabO
 have HW_ := qM spec_l31Out.bits1
 have pi123 : (0 ≤ (t121 : Int)) = True := eq_true (of_decide_eq_true c5b0)
 have qi123 : (t121 < (y118.length : Int)) = True := eq_true (of_decide_eq_true c6b0)
 have pi131 : (0 ≤ (t129 : Int)) = True := eq_true (of_decide_eq_true c9b0)
 have qi131 : (t129 < (y126.length : Int)) = True := eq_true (of_decide_eq_true c10b0)
 unfold spec_l31Out.J1_4_5_7_9_11_12 spec_l31Out.FR spec_l31Out.OPS at hJ1_4_5_7_9_11_12
 unfold spec_l31Out.J1_4_5_7_9_11_14 spec_l31Out.FR spec_l31Out.OPS at hJ1_4_5_7_9_11_14
 unfold spec_l31Out.J1_4_5_7_9_11_18 spec_l31Out.FR spec_l31Out.OPS at hJ1_4_5_7_9_11_18
 unfold spec_l31Out.J1_4_5_7_9_11 spec_l31Out.FR spec_l31Out.OPS
 ··skip
   rintro ⟨v119, adz_v119⟩ w23 ⟨h0_, h1_, h2_, h3_, h4_, h5_⟩
   have n0_ : Aside0 (Kd.R (Kd.int .i64) 3 w23 w.heap.size (fun _ => True) v119 y118) := ⟨h0_⟩
   have n1_ : Aside0 (∃ c_, (v119 : Value) = .slice (some adz_v119) y118.length c_) := ⟨h1_⟩
   have n2_ : Aside0 (w23.heap[gb113]? = some (.cells #[.int .i64 0, .int .i64 0, .int .i64 0, .int .i64 0] 53 (0, 0))) := ⟨h2_⟩
   have n3_ : Aside0 (IsS93 w0 w23 g s0_0 t125) := ⟨h3_⟩
   have n4_ : Aside0 (KeepBut w w23 g none) := ⟨h4_⟩
   have n5_ : Aside0 (Below w0.heap.size w0 w23) := ⟨h5_⟩
   clear h0_ h1_ h2_ h3_ h4_ h5_
   revert n0_ n1_ n2_ n3_ n4_ n5_
   intro HO120 HA_HO120 BK113 HI0 HK HB
   have hHeld := trivial
   obtain ⟨co24, eo24⟩ := HA_HO120.out
   clear HA_HO120
   subst eo24
   refine norm_ (a' := ?_) ?_ ?_
   rotate_left
   ·simp only [putAll, Act.put, List.setIfInBounds_toArray, List.set_cons_zero, List.set_cons_succ]
    rfl
   refine three_ (i := 12) (j := 14) (k := 18) (Ni := some 16) (Nj := some 18) (Nk := some 3) spec_l31Out.m21 spec_l31Out.m23 spec_l31Out.m24 rfl rfl rfl rfl rfl rfl (three_of HT_.out (by kernel_rfl)) (by decide) (by decide) (by decide) (fun K hK => ?_) (fun K hK => ?_) (fun K hK => ?_)
   ·skip
    refine Kd.R_lit_step (Kd.int .i64) _ 3 ?hg (N := 16) ?hd (xs := ([0, 1, 14, 15, t124] : List Int)) (inner := [.int .i64 0, .int .i64 1, .int .i64 14, .int .i64 15, .int .i64 t124]) (ok := fun _ => True) (okp := fun _ => True) ?hr ?hp (fun _ hk => hk) trivial (Below.refl _ _) (Nat.le_refl _) (by simp) ?_; (case hd => rfl); (case hg => rfl); (case hr => first | (go_simp; done) | (go_simp; rfl)); (case hp => exact (Reps.one (show Kd.M (Kd.int .i64) _ _ _ 0 [.int .i64 0] from rfl) (Reps.one (show Kd.M (Kd.int .i64) _ _ _ 1 [.int .i64 1] from rfl) (Reps.one (show Kd.M (Kd.int .i64) _ _ _ 14 [.int .i64 14] from rfl) (Reps.one (show Kd.M (Kd.int .i64) _ _ _ 15 [.int .i64 15] from rfl) (Reps.one (show Kd.M (Kd.int .i64) _ _ _ t124 [.int .i64 t124] from rfl) (Reps.none _ _)))))))
    intro v127 w25 ho26 hb hg_ hnew_
    clear hg_ hnew_
    (first | rw [← Ny126.out] at ho26 | (simp only [Int.reduceToNat] at ho26; rw [← Ny126.out] at ho26))
    have n0_ := qM (Kd.R_elder' HO120.out (Kd.R_base ho26) hb)
    have n1_ := qM (Kd.R_lower (Kd.R_new' ho26 (Kd.R_lt HO120.out)) (keep_size (w := w) (g := g) (row := none) HK.out))
    have n2_ := qM (IsS93.below HI0.out hb)
    have n3_ := qM (blk_below (g := gb113) (o := .cells #[.int .i64 0, .int .i64 0, .int .i64 0, .int .i64 0] 53 (0, 0)) BK113.out hb)
    have n4_ := qM (KeepBut.trans HK.out (KeepBut.of_below hb g none) (.inl rfl))
    have n5_ := qM (below_step HB.out hb)
    clear HO120 HI0 BK113 HK HB
    revert n0_ n1_ n2_ n3_ n4_ n5_
    intro HO120 HO128 HI0 BK113 HK HB
    clear hb ho26
    obtain ⟨Ao27, co27, eo27⟩ := Kd.R_slice HO128.out
    subst eo27
    obtain ⟨ado27, fo27, _⟩ := Kd.at_int (qR HO128.out).2.2 0 (by decide) (by rw [Ny126.out]; simp)
    cases fo27
    refine hK.out _ _ trivial (fun hHeld => ?_)
    clear hK K
    refine norm_ (a' := ?_) ?_ ?_
    rotate_left
    ·show Act.put _ (some 16) _ = _
     simp only [Act.put, List.setIfInBounds_toArray, List.set_cons_zero, List.set_cons_succ, i64_w, i32_w]
     rfl
    exact norm_ (by first | (simp only [putAll, Act.put, List.setIfInBounds_toArray, List.set_cons_zero, List.set_cons_succ]; done) | (simp only [putAll, Act.put, List.setIfInBounds_toArray, List.set_cons_zero, List.set_cons_succ]; rfl)) (hJ1_4_5_7_9_11_12 (.slice (some adz_v119) y118.length co24, adz_v119, .slice (some ado27) y126.length co27, ado27) _ ⟨(by (with_reducible repeat (first | apply qA | apply qN | apply qD)); exact Kd.R_mono HO120.out (fun _ hk => hk.2)), (by (with_reducible repeat (first | apply qA | apply qN | apply qD)); exact Kd.R_mono HO128.out (fun _ hk => hk.2)), ⟨_, rfl⟩, ⟨_, rfl⟩, BK113.out, HI0.out, HK.out, HB.out⟩)
   ·skip
    refine goes_ Try.func53 (by kernel_rfl) rfl #[.pointer (some ⟨g, 0, none⟩), .int .i64 5] (by rfl) rfl rfl (by (try simp only [List.map_toArray, List.map_cons, List.map_nil]); first | done | rfl | (simp only [List.length_drop, List.length_take]; rfl)) ?_
    with_reducible refine (spec_l30Rd_pick.calls k g s0_0 t125 5 t129 t130 w0 _ ?side1 ?side2 A8.out).mono ?_
    (case side1 => repeat (first | (with_reducible first | exact HI0.out | apply IsS93.alloc | apply IsS93.drewN | apply IsS93.drew | apply IsS93.set_1 | refine IsS93.far ?_ NB0_113.out _) | exact HI0.out))
    (case side2 => repeat (first | (with_reducible first | exact HB.out | apply yA | apply yN | apply yD | refine yS ?_ (IsS93.ge HI0.out) | refine yS ?_ GE113.out) | exact HB.out))
    rintro e w25 ⟨rfl, hi, hb, hk⟩
    refine ⟨_, rfl, ?_⟩
    have n0_ := qM (KeepBut.blk hk (g' := gb113) (o := .cells #[.int .i64 0, .int .i64 0, .int .i64 0, .int .i64 0] 53 (0, 0)) BK113.out NB113_0.out (by simp))
    have n1_ := qM (Kd.R_mono (Kd.R_keep (IsS93.apart (show IsS93 w0 _ g s0_0 t125 from by repeat (first | (with_reducible first | exact HI0.out | apply IsS93.alloc | apply IsS93.drewN | apply IsS93.drew | apply IsS93.set_1 | refine IsS93.far ?_ NB0_113.out _) | exact HI0.out)) HO120.out (by decide)) hk (fun _ h => h.2)) (fun _ h => h.1))
    have n2_ := qM (KeepBut.trans HK.out hk (.inl rfl))
    have n3_ := qM (hb)
    have n4_ := qM (hi)
    clear BK113 HO120 HK HB HI0
    revert n0_ n1_ n2_ n3_ n4_
    intro BK113 HO120 HK HB HI0
    (try clear hb)
    (try clear hb2)
    (try clear hk)
    (try clear hi)
    refine hK.out _ _ trivial (fun hHeld => ?_)
    clear hK K
    refine norm_ (a' := ?_) ?_ ?_
    rotate_left
    ·show Act.put _ (some 18) _ = _
     simp only [Act.put, List.setIfInBounds_toArray, List.set_cons_zero, List.set_cons_succ, i64_w, i32_w]
     rfl
    exact norm_ (by first | (simp only [putAll, Act.put, List.setIfInBounds_toArray, List.set_cons_zero, List.set_cons_succ]; done) | (simp only [putAll, Act.put, List.setIfInBounds_toArray, List.set_cons_zero, List.set_cons_succ]; rfl)) (hJ1_4_5_7_9_11_14 (.slice (some adz_v119) y118.length co24, adz_v119) _ ⟨HO120.out, ⟨_, rfl⟩, BK113.out, HI0.out, HK.out, HB.out⟩)
   ·skip
    refine box_step ?hg (N := 3) ?hd (cs := #[.int .i64 0, .int .i64 0, .int .i64 0, .int .i64 0]) (t := 53) ?hr ?_; (case hd => rfl); (case hg => rfl); (case hr => first | (go_simp; done) | (go_simp; rfl))
    intro gb132 hg w25 hbox hb
    have n0_ := qM (Kd.R_below HO120.out hb)
    have n1_ := qM (IsS93.below HI0.out hb)
    have n2_ := qM (blk_below (g := gb113) (o := .cells #[.int .i64 0, .int .i64 0, .int .i64 0, .int .i64 0] 53 (0, 0)) BK113.out hb)
    have n3_ := qM (KeepBut.trans HK.out (KeepBut.of_below hb g none) (.inl rfl))
    have n4_ := qM (below_step HB.out hb)
    have n5_ := qM (hbox)
    have n6_ := qM ((by rw [hg]; exact (keep_size (w := w) (g := g) (row := none) HK.out) : w.heap.size ≤ gb132))
    have n7_ := qM ((Nat.le_trans HW0.out (by rw [hg]; exact (keep_size (w := w) (g := g) (row := none) HK.out) : w.heap.size ≤ gb132) : w0.heap.size ≤ gb132))
    have n8_ := qM ((by rw [hg]; exact Nat.ne_of_lt (blk_lt (g := gb113) (o := .cells #[.int .i64 0, .int .i64 0, .int .i64 0, .int .i64 0] 53 (0, 0)) BK113.out) : gb113 ≠ gb132))
    have n9_ := qM ((by rw [hg]; exact Nat.ne_of_gt (blk_lt (g := gb113) (o := .cells #[.int .i64 0, .int .i64 0, .int .i64 0, .int .i64 0] 53 (0, 0)) BK113.out) : gb132 ≠ gb113))
    have n10_ := qM ((by rw [hg]; exact Nat.ne_of_lt (IsS93.lt (show IsS93 w0 _ g s0_0 t125 from by repeat (first | (with_reducible first | exact HI0.out | apply IsS93.alloc | apply IsS93.drewN | apply IsS93.drew | apply IsS93.set_1 | refine IsS93.far ?_ NB0_113.out _) | exact HI0.out))) : g ≠ gb132))
    have n11_ := qM ((by rw [hg]; exact Nat.ne_of_gt (IsS93.lt (show IsS93 w0 _ g s0_0 t125 from by repeat (first | (with_reducible first | exact HI0.out | apply IsS93.alloc | apply IsS93.drewN | apply IsS93.drew | apply IsS93.set_1 | refine IsS93.far ?_ NB0_113.out _) | exact HI0.out))) : gb132 ≠ g))
    clear HO120 HI0 BK113 HK HB
    revert n0_ n1_ n2_ n3_ n4_ n5_ n6_ n7_ n8_ n9_ n10_ n11_
    intro HO120 HI0 BK113 HK HB BK132 GW132 GE132 NB113_132 NB132_113 NB0_132 NB132_0
    clear hb hbox hg
    refine hK.out _ _ trivial (fun hHeld => ?_)
    clear hK K
    refine norm_ (a' := ?_) ?_ ?_
    rotate_left
    ·show Act.put _ (some 3) _ = _
     simp only [Act.put, List.setIfInBounds_toArray, List.set_cons_zero, List.set_cons_succ, i64_w, i32_w]
     rfl
    exact norm_ (by first | (simp only [putAll, Act.put, List.setIfInBounds_toArray, List.set_cons_zero, List.set_cons_succ]; done) | (simp only [putAll, Act.put, List.setIfInBounds_toArray, List.set_cons_zero, List.set_cons_succ]; rfl)) (hJ1_4_5_7_9_11_18 (.slice (some adz_v119) y118.length co24, adz_v119, gb132) _ ⟨HO120.out, ⟨_, rfl⟩, BK113.out, BK132.out, GW132.out, GE132.out, NB0_132.out, NB132_0.out, NB113_132.out, NB132_113.out, HI0.out, HK.out, HB.out⟩)
set_option maxHeartbeats 8000000 in
set_option maxRecDepth 100000 in
theorem spec_l31Out.j1_4_5_7_9_18 (k g : Nat) (s0_0 : List Int) (s0_1 : Int) (w0 w : World) (gb113 : Nat) (t114 t115 t116 t117 t121 t122 t124 t125 t129 t130 : Int) (y118 y126 : List Int) (K : Act → World → Prop) (post : Ending → World → Prop) (hC : spec_l31Out.CX k g s0_0 s0_1 w0 w gb113 t114 t115 t116 t117 t121 t122 t124 t125 t129 t130 y118 y126) (hJ1_4_5_7_9_11_18 : spec_l31Out.J1_4_5_7_9_11_18 k g s0_0 s0_1 w0 w gb113 t114 t115 t116 t117 t121 t122 t124 t125 t129 t130 y118 y126 K post) : spec_l31Out.J1_4_5_7_9_18 k g s0_0 s0_1 w0 w gb113 t114 t115 t116 t117 t121 t122 t124 t125 t129 t130 y118 y126 K post := by
 obtain ⟨HW0, A2, A3, Ny118, A4, A7, Ny126, A8, GW113, GE113, NB0_113, NB113_0, c5b0, c6b0, c9b0, c10b0⟩ := hC
 have HT_ := qM spec_l31Out.tabO
 have HW_ := qM spec_l31Out.bits1
 have pi123 : (0 ≤ (t121 : Int)) = True := eq_true (of_decide_eq_true c5b0)
 have qi123 : (t121 < (y118.length : Int)) = True := eq_true (of_decide_eq_true c6b0)
 have pi131 : (0 ≤ (t129 : Int)) = True := eq_true (of_decide_eq_true c9b0)
 have qi131 : (t129 < (y126.length : Int)) = True := eq_true (of_decide_eq_true c10b0)
 unfold spec_l31Out.J1_4_5_7_9_11_18 spec_l31Out.FR spec_l31Out.OPS at hJ1_4_5_7_9_11_18
 unfold spec_l31Out.J1_4_5_7_9_18 spec_l31Out.FR spec_l31Out.OPS
 ··skip
   rintro ⟨v119, adz_v119, gb132⟩ w23 ⟨h0_, h1_, h2_, h3_, h4_, h5_, h6_, h7_, h8_, h9_, h10_, h11_, h12_⟩
   have n0_ : Aside0 (Kd.R (Kd.int .i64) 3 w23 w.heap.size (fun _ => True) v119 y118) := ⟨h0_⟩
   have n1_ : Aside0 (∃ c_, (v119 : Value) = .slice (some adz_v119) y118.length c_) := ⟨h1_⟩
   have n2_ : Aside0 (w23.heap[gb113]? = some (.cells #[.int .i64 0, .int .i64 0, .int .i64 0, .int .i64 0] 53 (0, 0))) := ⟨h2_⟩
   have n3_ : Aside0 (w23.heap[gb132]? = some (.cells #[.int .i64 0, .int .i64 0, .int .i64 0, .int .i64 0] 53 (0, 0))) := ⟨h3_⟩
   have n4_ : Aside0 (w.heap.size ≤ gb132) := ⟨h4_⟩
   have n5_ : Aside0 (w0.heap.size ≤ gb132) := ⟨h5_⟩
   have n6_ : Aside0 (g ≠ gb132) := ⟨h6_⟩
   have n7_ : Aside0 (gb132 ≠ g) := ⟨h7_⟩
   have n8_ : Aside0 (gb113 ≠ gb132) := ⟨h8_⟩
   have n9_ : Aside0 (gb132 ≠ gb113) := ⟨h9_⟩
   have n10_ : Aside0 (IsS93 w0 w23 g s0_0 t122) := ⟨h10_⟩
   have n11_ : Aside0 (KeepBut w w23 g none) := ⟨h11_⟩
   have n12_ : Aside0 (Below w0.heap.size w0 w23) := ⟨h12_⟩
   clear h0_ h1_ h2_ h3_ h4_ h5_ h6_ h7_ h8_ h9_ h10_ h11_ h12_
   revert n0_ n1_ n2_ n3_ n4_ n5_ n6_ n7_ n8_ n9_ n10_ n11_ n12_
   intro HO120 HA_HO120 BK113 BK132 GW132 GE132 NB0_132 NB132_0 NB113_132 NB132_113 HI0 HK HB
   have hHeld := trivial
   obtain ⟨co24, eo24⟩ := HA_HO120.out
   clear HA_HO120
   subst eo24
   refine norm_ (a' := ?_) ?_ ?_
   rotate_left
   ·simp only [putAll, Act.put, List.setIfInBounds_toArray, List.set_cons_zero, List.set_cons_succ]
    rfl
   refine one_ (i := 11) (N := some 15) spec_l31Out.m24 rfl rfl (one_of HT_.out (by kernel_rfl)) (by decide) (fun K hK => ?_)
   refine goes_ Try.func53 (by kernel_rfl) rfl #[.pointer (some ⟨g, 0, none⟩), .int .i64 16] (by rfl) rfl rfl (by (try simp only [List.map_toArray, List.map_cons, List.map_nil]); first | done | rfl | (simp only [List.length_drop, List.length_take]; rfl)) ?_
   with_reducible refine (spec_l30Rd_pick.calls k g s0_0 t122 16 t124 t125 w0 _ ?side1 ?side2 A7.out).mono ?_
   (case side1 => repeat (first | (with_reducible first | exact HI0.out | apply IsS93.alloc | apply IsS93.drewN | apply IsS93.drew | apply IsS93.set_1 | refine IsS93.far ?_ NB0_113.out _ | refine IsS93.far ?_ NB0_132.out _) | exact HI0.out))
   (case side2 => repeat (first | (with_reducible first | exact HB.out | apply yA | apply yN | apply yD | refine yS ?_ (IsS93.ge HI0.out) | refine yS ?_ GE113.out | refine yS ?_ GE132.out) | exact HB.out))
   rintro e w25 ⟨rfl, hi, hb, hk⟩
   refine ⟨_, rfl, ?_⟩
   have n0_ := qM (KeepBut.blk hk (g' := gb113) (o := .cells #[.int .i64 0, .int .i64 0, .int .i64 0, .int .i64 0] 53 (0, 0)) BK113.out NB113_0.out (by simp))
   have n1_ := qM (Kd.R_mono (Kd.R_keep (IsS93.apart (show IsS93 w0 _ g s0_0 t122 from by repeat (first | (with_reducible first | exact HI0.out | apply IsS93.alloc | apply IsS93.drewN | apply IsS93.drew | apply IsS93.set_1 | refine IsS93.far ?_ NB0_113.out _ | refine IsS93.far ?_ NB0_132.out _) | exact HI0.out)) HO120.out (by decide)) hk (fun _ h => h.2)) (fun _ h => h.1))
   have n2_ := qM (KeepBut.blk hk (g' := gb132) (o := .cells #[.int .i64 0, .int .i64 0, .int .i64 0, .int .i64 0] 53 (0, 0)) BK132.out NB132_0.out (by simp))
   have n3_ := qM (KeepBut.trans HK.out hk (.inl rfl))
   have n4_ := qM (hb)
   have n5_ := qM (hi)
   clear BK113 HO120 BK132 HK HB HI0
   revert n0_ n1_ n2_ n3_ n4_ n5_
   intro BK113 HO120 BK132 HK HB HI0
   (try clear hb)
   (try clear hb2)
   (try clear hk)
   (try clear hi)
   refine hK.out _ _ trivial (fun hHeld => ?_)
   clear hK K
   refine norm_ (a' := ?_) ?_ ?_
   rotate_left
   ·show Act.put _ (some 15) _ = _
    simp only [Act.put, List.setIfInBounds_toArray, List.set_cons_zero, List.set_cons_succ, i64_w, i32_w]
    rfl
   exact norm_ (by first | (simp only [putAll, Act.put, List.setIfInBounds_toArray, List.set_cons_zero, List.set_cons_succ]; done) | (simp only [putAll, Act.put, List.setIfInBounds_toArray, List.set_cons_zero, List.set_cons_succ]; rfl)) (hJ1_4_5_7_9_11_18 (.slice (some adz_v119) y118.length co24, adz_v119, gb132) _ ⟨HO120.out, ⟨_, rfl⟩, BK113.out, BK132.out, GW132.out, GE132.out, NB0_132.out, NB132_0.out, NB113_132.out, NB132_113.out, HI0.out, HK.out, HB.out⟩)
set_option maxHeartbeats 8000000 in
set_option maxRecDepth 100000 in
theorem spec_l31Out.j1_4_5_7_11_12 (k g : Nat) (s0_0 : List Int) (s0_1 : Int) (w0 w : World) (gb113 : Nat) (t114 t115 t116 t117 t121 t122 t124 t125 t129 t130 : Int) (y118 y126 : List Int) (K : Act → World → Prop) (post : Ending → World → Prop) (hC : spec_l31Out.CX k g s0_0 s0_1 w0 w gb113 t114 t115 t116 t117 t121 t122 t124 t125 t129 t130 y118 y126) (hJ1_4_5_7_9_11_12 : spec_l31Out.J1_4_5_7_9_11_12 k g s0_0 s0_1 w0 w gb113 t114 t115 t116 t117 t121 t122 t124 t125 t129 t130 y118 y126 K post) (hJ1_4_5_7_11_12_14 : spec_l31Out.J1_4_5_7_11_12_14 k g s0_0 s0_1 w0 w gb113 t114 t115 t116 t117 t121 t122 t124 t125 t129 t130 y118 y126 K post) (hJ1_4_5_7_11_12_18 : spec_l31Out.J1_4_5_7_11_12_18 k g s0_0 s0_1 w0 w gb113 t114 t115 t116 t117 t121 t122 t124 t125 t129 t130 y118 y126 K post) : spec_l31Out.J1_4_5_7_11_12 k g s0_0 s0_1 w0 w gb113 t114 t115 t116 t117 t121 t122 t124 t125 t129 t130 y118 y126 K post := by
 obtain ⟨HW0, A2, A3, Ny118, A4, A7, Ny126, A8, GW113, GE113, NB0_113, NB113_0, c5b0, c6b0, c9b0, c10b0⟩ := hC
 have HT_ := qM spec_l31Out.tabO
 have HW_ := qM spec_l31Out.bits1
 have pi123 : (0 ≤ (t121 : Int)) = True := eq_true (of_decide_eq_true c5b0)
 have qi123 : (t121 < (y118.length : Int)) = True := eq_true (of_decide_eq_true c6b0)
 have pi131 : (0 ≤ (t129 : Int)) = True := eq_true (of_decide_eq_true c9b0)
 have qi131 : (t129 < (y126.length : Int)) = True := eq_true (of_decide_eq_true c10b0)
 unfold spec_l31Out.J1_4_5_7_9_11_12 spec_l31Out.FR spec_l31Out.OPS at hJ1_4_5_7_9_11_12
 unfold spec_l31Out.J1_4_5_7_11_12_14 spec_l31Out.FR spec_l31Out.OPS at hJ1_4_5_7_11_12_14
 unfold spec_l31Out.J1_4_5_7_11_12_18 spec_l31Out.FR spec_l31Out.OPS at hJ1_4_5_7_11_12_18
 unfold spec_l31Out.J1_4_5_7_11_12 spec_l31Out.FR spec_l31Out.OPS
 ··skip
   rintro ⟨v119, adz_v119, v127, adz_v127⟩ w26 ⟨h0_, h1_, h2_, h3_, h4_, h5_, h6_, h7_⟩
   have n0_ : Aside0 (Kd.R (Kd.int .i64) 3 w26 w.heap.size (fun k_ => some k_ ≠ (v127 : Value).ownBlock) v119 y118) := ⟨h0_⟩
   have n1_ : Aside0 (Kd.R (Kd.int .i64) 3 w26 w.heap.size (fun k_ => some k_ ≠ (v119 : Value).ownBlock) v127 y126) := ⟨h1_⟩
   have n2_ : Aside0 (∃ c_, (v119 : Value) = .slice (some adz_v119) y118.length c_) := ⟨h2_⟩
   have n3_ : Aside0 (∃ c_, (v127 : Value) = .slice (some adz_v127) y126.length c_) := ⟨h3_⟩
   have n4_ : Aside0 (w26.heap[gb113]? = some (.cells #[.int .i64 0, .int .i64 0, .int .i64 0, .int .i64 0] 53 (0, 0))) := ⟨h4_⟩
   have n5_ : Aside0 (IsS93 w0 w26 g s0_0 t125) := ⟨h5_⟩
   have n6_ : Aside0 (KeepBut w w26 g none) := ⟨h6_⟩
   have n7_ : Aside0 (Below w0.heap.size w0 w26) := ⟨h7_⟩
   clear h0_ h1_ h2_ h3_ h4_ h5_ h6_ h7_
   revert n0_ n1_ n2_ n3_ n4_ n5_ n6_ n7_
   intro HO120 HO128 HA_HO120 HA_HO128 BK113 HI0 HK HB
   have hHeld := trivial
   obtain ⟨co27, eo27⟩ := HA_HO120.out
   clear HA_HO120
   subst eo27
   obtain ⟨co28, eo28⟩ := HA_HO128.out
   clear HA_HO128
   subst eo28
   refine norm_ (a' := ?_) ?_ ?_
   rotate_left
   ·simp only [putAll, Act.put, List.setIfInBounds_toArray, List.set_cons_zero, List.set_cons_succ]
    rfl
   refine three_ (i := 9) (j := 14) (k := 18) (Ni := some 13) (Nj := some 18) (Nk := some 3) spec_l31Out.m21 spec_l31Out.m36 spec_l31Out.m26 rfl rfl rfl rfl rfl rfl (three_of HT_.out (by kernel_rfl)) (by decide) (by decide) (by decide) (fun K hK => ?_) (fun K hK => ?_) (fun K hK => ?_)
   ·skip
    (have p123 : 0 ≤ (t121 : Int) := of_decide_eq_true (by first | (with_reducible assumption) | assumption); have q123 : t121 < (y118.length : Int) := of_decide_eq_true (by first | (with_reducible assumption) | assumption); obtain ⟨ad123, e123, hx123_0⟩ := Kd.at_int (qR HO120.out).2.2 t121 p123 q123; obtain rfl : adz_v119 = ad123 := (by injection e123))
    refine value_ (w1 := ?_) (v := ?_) (by rfl) rfl ?_ ?_
    rotate_left 2
    ·go_simp
     constructor
     ·rfl
     ·rfl
    clear hx123_0
    refine hK.out _ _ trivial (fun hHeld => ?_)
    clear hK K
    refine norm_ (a' := ?_) ?_ ?_
    rotate_left
    ·show Act.put _ (some 13) _ = _
     simp only [Act.put, List.setIfInBounds_toArray, List.set_cons_zero, List.set_cons_succ, i64_w, i32_w]
     rfl
    exact norm_ (by first | (simp only [putAll, Act.put, List.setIfInBounds_toArray, List.set_cons_zero, List.set_cons_succ]; done) | (simp only [putAll, Act.put, List.setIfInBounds_toArray, List.set_cons_zero, List.set_cons_succ]; rfl)) (hJ1_4_5_7_9_11_12 (.slice (some adz_v119) y118.length co27, adz_v119, .slice (some adz_v127) y126.length co28, adz_v127) _ ⟨HO120.out, HO128.out, ⟨_, rfl⟩, ⟨_, rfl⟩, BK113.out, HI0.out, HK.out, HB.out⟩)
   ·skip
    refine goes_ Try.func53 (by kernel_rfl) rfl #[.pointer (some ⟨g, 0, none⟩), .int .i64 5] (by rfl) rfl rfl (by (try simp only [List.map_toArray, List.map_cons, List.map_nil]); first | done | rfl | (simp only [List.length_drop, List.length_take]; rfl)) ?_
    with_reducible refine (spec_l30Rd_pick.calls k g s0_0 t125 5 t129 t130 w0 _ ?side1 ?side2 A8.out).mono ?_
    (case side1 => repeat (first | (with_reducible first | exact HI0.out | apply IsS93.alloc | apply IsS93.drewN | apply IsS93.drew | apply IsS93.set_1 | refine IsS93.far ?_ NB0_113.out _) | exact HI0.out))
    (case side2 => repeat (first | (with_reducible first | exact HB.out | apply yA | apply yN | apply yD | refine yS ?_ (IsS93.ge HI0.out) | refine yS ?_ GE113.out) | exact HB.out))
    rintro e w29 ⟨rfl, hi, hb, hk⟩
    refine ⟨_, rfl, ?_⟩
    have n0_ := qM (KeepBut.blk hk (g' := gb113) (o := .cells #[.int .i64 0, .int .i64 0, .int .i64 0, .int .i64 0] 53 (0, 0)) BK113.out NB113_0.out (by simp))
    have n1_ := qM (Kd.R_mono (Kd.R_keep (IsS93.apart (show IsS93 w0 _ g s0_0 t125 from by repeat (first | (with_reducible first | exact HI0.out | apply IsS93.alloc | apply IsS93.drewN | apply IsS93.drew | apply IsS93.set_1 | refine IsS93.far ?_ NB0_113.out _) | exact HI0.out)) HO120.out (by decide)) hk (fun _ h => h.2)) (fun _ h => h.1))
    have n2_ := qM (Kd.R_mono (Kd.R_keep (IsS93.apart (show IsS93 w0 _ g s0_0 t125 from by repeat (first | (with_reducible first | exact HI0.out | apply IsS93.alloc | apply IsS93.drewN | apply IsS93.drew | apply IsS93.set_1 | refine IsS93.far ?_ NB0_113.out _) | exact HI0.out)) HO128.out (by decide)) hk (fun _ h => h.2)) (fun _ h => h.1))
    have n3_ := qM (KeepBut.trans HK.out hk (.inl rfl))
    have n4_ := qM (hb)
    have n5_ := qM (hi)
    clear BK113 HO120 HO128 HK HB HI0
    revert n0_ n1_ n2_ n3_ n4_ n5_
    intro BK113 HO120 HO128 HK HB HI0
    (try clear hb)
    (try clear hb2)
    (try clear hk)
    (try clear hi)
    refine hK.out _ _ trivial (fun hHeld => ?_)
    clear hK K
    refine norm_ (a' := ?_) ?_ ?_
    rotate_left
    ·show Act.put _ (some 18) _ = _
     simp only [Act.put, List.setIfInBounds_toArray, List.set_cons_zero, List.set_cons_succ, i64_w, i32_w]
     rfl
    refine pure_ (i := 15) (N := some 19) (v := ?_) (a' := ?_) spec_l31Out.m25 rfl rfl (any_of HT_.out (by kernel_rfl)) (fun _ _ _ h => h) (Or.inl ⟨by rfl, ?_⟩) ?_ ?_
    rotate_left
    ·intro w'
     go_simp
     with_reducible rfl
    rotate_left
    ·simp only [Act.put, List.setIfInBounds_toArray, List.set_cons_zero, List.set_cons_succ, i64_w, i32_w]
     rfl
    exact norm_ (by first | (simp only [putAll, Act.put, List.setIfInBounds_toArray, List.set_cons_zero, List.set_cons_succ]; done) | (simp only [putAll, Act.put, List.setIfInBounds_toArray, List.set_cons_zero, List.set_cons_succ]; rfl)) (hJ1_4_5_7_11_12_14 (.slice (some adz_v119) y118.length co27, adz_v119, .slice (some adz_v127) y126.length co28, adz_v127) _ ⟨HO120.out, HO128.out, ⟨_, rfl⟩, ⟨_, rfl⟩, BK113.out, HI0.out, HK.out, HB.out⟩)
   ·skip
    refine box_step ?hg (N := 3) ?hd (cs := #[.int .i64 0, .int .i64 0, .int .i64 0, .int .i64 0]) (t := 53) ?hr ?_; (case hd => rfl); (case hg => rfl); (case hr => first | (go_simp; done) | (go_simp; rfl))
    intro gb132 hg w29 hbox hb
    have n0_ := qM (Kd.R_below HO120.out hb)
    have n1_ := qM (Kd.R_below HO128.out hb)
    have n2_ := qM (IsS93.below HI0.out hb)
    have n3_ := qM (blk_below (g := gb113) (o := .cells #[.int .i64 0, .int .i64 0, .int .i64 0, .int .i64 0] 53 (0, 0)) BK113.out hb)
    have n4_ := qM (KeepBut.trans HK.out (KeepBut.of_below hb g none) (.inl rfl))
    have n5_ := qM (below_step HB.out hb)
    have n6_ := qM (hbox)
    have n7_ := qM ((by rw [hg]; exact (keep_size (w := w) (g := g) (row := none) HK.out) : w.heap.size ≤ gb132))
    have n8_ := qM ((Nat.le_trans HW0.out (by rw [hg]; exact (keep_size (w := w) (g := g) (row := none) HK.out) : w.heap.size ≤ gb132) : w0.heap.size ≤ gb132))
    have n9_ := qM ((by rw [hg]; exact Nat.ne_of_lt (blk_lt (g := gb113) (o := .cells #[.int .i64 0, .int .i64 0, .int .i64 0, .int .i64 0] 53 (0, 0)) BK113.out) : gb113 ≠ gb132))
    have n10_ := qM ((by rw [hg]; exact Nat.ne_of_gt (blk_lt (g := gb113) (o := .cells #[.int .i64 0, .int .i64 0, .int .i64 0, .int .i64 0] 53 (0, 0)) BK113.out) : gb132 ≠ gb113))
    have n11_ := qM ((by rw [hg]; exact Nat.ne_of_lt (IsS93.lt (show IsS93 w0 _ g s0_0 t125 from by repeat (first | (with_reducible first | exact HI0.out | apply IsS93.alloc | apply IsS93.drewN | apply IsS93.drew | apply IsS93.set_1 | refine IsS93.far ?_ NB0_113.out _) | exact HI0.out))) : g ≠ gb132))
    have n12_ := qM ((by rw [hg]; exact Nat.ne_of_gt (IsS93.lt (show IsS93 w0 _ g s0_0 t125 from by repeat (first | (with_reducible first | exact HI0.out | apply IsS93.alloc | apply IsS93.drewN | apply IsS93.drew | apply IsS93.set_1 | refine IsS93.far ?_ NB0_113.out _) | exact HI0.out))) : gb132 ≠ g))
    clear HO120 HO128 HI0 BK113 HK HB
    revert n0_ n1_ n2_ n3_ n4_ n5_ n6_ n7_ n8_ n9_ n10_ n11_ n12_
    intro HO120 HO128 HI0 BK113 HK HB BK132 GW132 GE132 NB113_132 NB132_113 NB0_132 NB132_0
    clear hb hbox hg
    refine hK.out _ _ trivial (fun hHeld => ?_)
    clear hK K
    refine norm_ (a' := ?_) ?_ ?_
    rotate_left
    ·show Act.put _ (some 3) _ = _
     simp only [Act.put, List.setIfInBounds_toArray, List.set_cons_zero, List.set_cons_succ, i64_w, i32_w]
     rfl
    exact norm_ (by first | (simp only [putAll, Act.put, List.setIfInBounds_toArray, List.set_cons_zero, List.set_cons_succ]; done) | (simp only [putAll, Act.put, List.setIfInBounds_toArray, List.set_cons_zero, List.set_cons_succ]; rfl)) (hJ1_4_5_7_11_12_18 (.slice (some adz_v119) y118.length co27, adz_v119, .slice (some adz_v127) y126.length co28, adz_v127, gb132) _ ⟨HO120.out, HO128.out, ⟨_, rfl⟩, ⟨_, rfl⟩, BK113.out, BK132.out, GW132.out, GE132.out, NB0_132.out, NB132_0.out, NB113_132.out, NB132_113.out, HI0.out, HK.out, HB.out⟩)
set_option maxHeartbeats 8000000 in
set_option maxRecDepth 100000 in
theorem spec_l31Out.j1_4_5_7_11_14 (k g : Nat) (s0_0 : List Int) (s0_1 : Int) (w0 w : World) (gb113 : Nat) (t114 t115 t116 t117 t121 t122 t124 t125 t129 t130 : Int) (y118 y126 : List Int) (K : Act → World → Prop) (post : Ending → World → Prop) (hC : spec_l31Out.CX k g s0_0 s0_1 w0 w gb113 t114 t115 t116 t117 t121 t122 t124 t125 t129 t130 y118 y126) (hJ1_4_5_7_9_11_14 : spec_l31Out.J1_4_5_7_9_11_14 k g s0_0 s0_1 w0 w gb113 t114 t115 t116 t117 t121 t122 t124 t125 t129 t130 y118 y126 K post) (hJ1_4_5_7_11_12_14 : spec_l31Out.J1_4_5_7_11_12_14 k g s0_0 s0_1 w0 w gb113 t114 t115 t116 t117 t121 t122 t124 t125 t129 t130 y118 y126 K post) (hJ1_4_5_7_11_14_18 : spec_l31Out.J1_4_5_7_11_14_18 k g s0_0 s0_1 w0 w gb113 t114 t115 t116 t117 t121 t122 t124 t125 t129 t130 y118 y126 K post) : spec_l31Out.J1_4_5_7_11_14 k g s0_0 s0_1 w0 w gb113 t114 t115 t116 t117 t121 t122 t124 t125 t129 t130 y118 y126 K post := by
 obtain ⟨HW0, A2, A3, Ny118, A4, A7, Ny126, A8, GW113, GE113, NB0_113, NB113_0, c5b0, c6b0, c9b0, c10b0⟩ := hC
 have HT_ := qM spec_l31Out.tabO
 have HW_ := qM spec_l31Out.bits1
 have pi123 : (0 ≤ (t121 : Int)) = True := eq_true (of_decide_eq_true c5b0)
 have qi123 : (t121 < (y118.length : Int)) = True := eq_true (of_decide_eq_true c6b0)
 have pi131 : (0 ≤ (t129 : Int)) = True := eq_true (of_decide_eq_true c9b0)
 have qi131 : (t129 < (y126.length : Int)) = True := eq_true (of_decide_eq_true c10b0)
 unfold spec_l31Out.J1_4_5_7_9_11_14 spec_l31Out.FR spec_l31Out.OPS at hJ1_4_5_7_9_11_14
 unfold spec_l31Out.J1_4_5_7_11_12_14 spec_l31Out.FR spec_l31Out.OPS at hJ1_4_5_7_11_12_14
 unfold spec_l31Out.J1_4_5_7_11_14_18 spec_l31Out.FR spec_l31Out.OPS at hJ1_4_5_7_11_14_18
 unfold spec_l31Out.J1_4_5_7_11_14 spec_l31Out.FR spec_l31Out.OPS
 ··skip
   rintro ⟨v119, adz_v119⟩ w24 ⟨h0_, h1_, h2_, h3_, h4_, h5_⟩
   have n0_ : Aside0 (Kd.R (Kd.int .i64) 3 w24 w.heap.size (fun _ => True) v119 y118) := ⟨h0_⟩
   have n1_ : Aside0 (∃ c_, (v119 : Value) = .slice (some adz_v119) y118.length c_) := ⟨h1_⟩
   have n2_ : Aside0 (w24.heap[gb113]? = some (.cells #[.int .i64 0, .int .i64 0, .int .i64 0, .int .i64 0] 53 (0, 0))) := ⟨h2_⟩
   have n3_ : Aside0 (IsS93 w0 w24 g s0_0 t130) := ⟨h3_⟩
   have n4_ : Aside0 (KeepBut w w24 g none) := ⟨h4_⟩
   have n5_ : Aside0 (Below w0.heap.size w0 w24) := ⟨h5_⟩
   clear h0_ h1_ h2_ h3_ h4_ h5_
   revert n0_ n1_ n2_ n3_ n4_ n5_
   intro HO120 HA_HO120 BK113 HI0 HK HB
   have hHeld := trivial
   obtain ⟨co25, eo25⟩ := HA_HO120.out
   clear HA_HO120
   subst eo25
   refine norm_ (a' := ?_) ?_ ?_
   rotate_left
   ·simp only [putAll, Act.put, List.setIfInBounds_toArray, List.set_cons_zero, List.set_cons_succ]
    rfl
   refine three_ (i := 9) (j := 12) (k := 18) (Ni := some 13) (Nj := some 16) (Nk := some 3) spec_l31Out.m23 spec_l31Out.m36 spec_l31Out.m28 rfl rfl rfl rfl rfl rfl (three_of HT_.out (by kernel_rfl)) (by decide) (by decide) (by decide) (fun K hK => ?_) (fun K hK => ?_) (fun K hK => ?_)
   ·skip
    (have p123 : 0 ≤ (t121 : Int) := of_decide_eq_true (by first | (with_reducible assumption) | assumption); have q123 : t121 < (y118.length : Int) := of_decide_eq_true (by first | (with_reducible assumption) | assumption); obtain ⟨ad123, e123, hx123_0⟩ := Kd.at_int (qR HO120.out).2.2 t121 p123 q123; obtain rfl : adz_v119 = ad123 := (by injection e123))
    refine value_ (w1 := ?_) (v := ?_) (by rfl) rfl ?_ ?_
    rotate_left 2
    ·go_simp
     constructor
     ·rfl
     ·rfl
    clear hx123_0
    refine hK.out _ _ trivial (fun hHeld => ?_)
    clear hK K
    refine norm_ (a' := ?_) ?_ ?_
    rotate_left
    ·show Act.put _ (some 13) _ = _
     simp only [Act.put, List.setIfInBounds_toArray, List.set_cons_zero, List.set_cons_succ, i64_w, i32_w]
     rfl
    exact norm_ (by first | (simp only [putAll, Act.put, List.setIfInBounds_toArray, List.set_cons_zero, List.set_cons_succ]; done) | (simp only [putAll, Act.put, List.setIfInBounds_toArray, List.set_cons_zero, List.set_cons_succ]; rfl)) (hJ1_4_5_7_9_11_14 (.slice (some adz_v119) y118.length co25, adz_v119) _ ⟨HO120.out, ⟨_, rfl⟩, BK113.out, HI0.out, HK.out, HB.out⟩)
   ·skip
    refine Kd.R_lit_step (Kd.int .i64) _ 3 ?hg (N := 16) ?hd (xs := ([0, 1, 14, 15, t124] : List Int)) (inner := [.int .i64 0, .int .i64 1, .int .i64 14, .int .i64 15, .int .i64 t124]) (ok := fun _ => True) (okp := fun _ => True) ?hr ?hp (fun _ hk => hk) trivial (Below.refl _ _) (Nat.le_refl _) (by simp) ?_; (case hd => rfl); (case hg => rfl); (case hr => first | (go_simp; done) | (go_simp; rfl)); (case hp => exact (Reps.one (show Kd.M (Kd.int .i64) _ _ _ 0 [.int .i64 0] from rfl) (Reps.one (show Kd.M (Kd.int .i64) _ _ _ 1 [.int .i64 1] from rfl) (Reps.one (show Kd.M (Kd.int .i64) _ _ _ 14 [.int .i64 14] from rfl) (Reps.one (show Kd.M (Kd.int .i64) _ _ _ 15 [.int .i64 15] from rfl) (Reps.one (show Kd.M (Kd.int .i64) _ _ _ t124 [.int .i64 t124] from rfl) (Reps.none _ _)))))))
    intro v127 w26 ho27 hb hg_ hnew_
    clear hg_ hnew_
    (first | rw [← Ny126.out] at ho27 | (simp only [Int.reduceToNat] at ho27; rw [← Ny126.out] at ho27))
    have n0_ := qM (Kd.R_elder' HO120.out (Kd.R_base ho27) hb)
    have n1_ := qM (Kd.R_lower (Kd.R_new' ho27 (Kd.R_lt HO120.out)) (keep_size (w := w) (g := g) (row := none) HK.out))
    have n2_ := qM (IsS93.below HI0.out hb)
    have n3_ := qM (blk_below (g := gb113) (o := .cells #[.int .i64 0, .int .i64 0, .int .i64 0, .int .i64 0] 53 (0, 0)) BK113.out hb)
    have n4_ := qM (KeepBut.trans HK.out (KeepBut.of_below hb g none) (.inl rfl))
    have n5_ := qM (below_step HB.out hb)
    clear HO120 HI0 BK113 HK HB
    revert n0_ n1_ n2_ n3_ n4_ n5_
    intro HO120 HO128 HI0 BK113 HK HB
    clear hb ho27
    obtain ⟨Ao28, co28, eo28⟩ := Kd.R_slice HO128.out
    subst eo28
    obtain ⟨ado28, fo28, _⟩ := Kd.at_int (qR HO128.out).2.2 0 (by decide) (by rw [Ny126.out]; simp)
    cases fo28
    refine hK.out _ _ trivial (fun hHeld => ?_)
    clear hK K
    refine norm_ (a' := ?_) ?_ ?_
    rotate_left
    ·show Act.put _ (some 16) _ = _
     simp only [Act.put, List.setIfInBounds_toArray, List.set_cons_zero, List.set_cons_succ, i64_w, i32_w]
     rfl
    refine pure_ (i := 15) (N := some 19) (v := ?_) (a' := ?_) spec_l31Out.m25 rfl rfl (any_of HT_.out (by kernel_rfl)) (fun _ _ _ h => h) (Or.inl ⟨by rfl, ?_⟩) ?_ ?_
    rotate_left
    ·intro w'
     go_simp
     with_reducible rfl
    rotate_left
    ·simp only [Act.put, List.setIfInBounds_toArray, List.set_cons_zero, List.set_cons_succ, i64_w, i32_w]
     rfl
    exact norm_ (by first | (simp only [putAll, Act.put, List.setIfInBounds_toArray, List.set_cons_zero, List.set_cons_succ]; done) | (simp only [putAll, Act.put, List.setIfInBounds_toArray, List.set_cons_zero, List.set_cons_succ]; rfl)) (hJ1_4_5_7_11_12_14 (.slice (some adz_v119) y118.length co25, adz_v119, .slice (some ado28) y126.length co28, ado28) _ ⟨(by (with_reducible repeat (first | apply qA | apply qN | apply qD)); exact Kd.R_mono HO120.out (fun _ hk => hk.2)), (by (with_reducible repeat (first | apply qA | apply qN | apply qD)); exact Kd.R_mono HO128.out (fun _ hk => hk.2)), ⟨_, rfl⟩, ⟨_, rfl⟩, BK113.out, HI0.out, HK.out, HB.out⟩)
   ·skip
    refine box_step ?hg (N := 3) ?hd (cs := #[.int .i64 0, .int .i64 0, .int .i64 0, .int .i64 0]) (t := 53) ?hr ?_; (case hd => rfl); (case hg => rfl); (case hr => first | (go_simp; done) | (go_simp; rfl))
    intro gb132 hg w26 hbox hb
    have n0_ := qM (Kd.R_below HO120.out hb)
    have n1_ := qM (IsS93.below HI0.out hb)
    have n2_ := qM (blk_below (g := gb113) (o := .cells #[.int .i64 0, .int .i64 0, .int .i64 0, .int .i64 0] 53 (0, 0)) BK113.out hb)
    have n3_ := qM (KeepBut.trans HK.out (KeepBut.of_below hb g none) (.inl rfl))
    have n4_ := qM (below_step HB.out hb)
    have n5_ := qM (hbox)
    have n6_ := qM ((by rw [hg]; exact (keep_size (w := w) (g := g) (row := none) HK.out) : w.heap.size ≤ gb132))
    have n7_ := qM ((Nat.le_trans HW0.out (by rw [hg]; exact (keep_size (w := w) (g := g) (row := none) HK.out) : w.heap.size ≤ gb132) : w0.heap.size ≤ gb132))
    have n8_ := qM ((by rw [hg]; exact Nat.ne_of_lt (blk_lt (g := gb113) (o := .cells #[.int .i64 0, .int .i64 0, .int .i64 0, .int .i64 0] 53 (0, 0)) BK113.out) : gb113 ≠ gb132))
    have n9_ := qM ((by rw [hg]; exact Nat.ne_of_gt (blk_lt (g := gb113) (o := .cells #[.int .i64 0, .int .i64 0, .int .i64 0, .int .i64 0] 53 (0, 0)) BK113.out) : gb132 ≠ gb113))
    have n10_ := qM ((by rw [hg]; exact Nat.ne_of_lt (IsS93.lt (show IsS93 w0 _ g s0_0 t130 from by repeat (first | (with_reducible first | exact HI0.out | apply IsS93.alloc | apply IsS93.drewN | apply IsS93.drew | apply IsS93.set_1 | refine IsS93.far ?_ NB0_113.out _) | exact HI0.out))) : g ≠ gb132))
    have n11_ := qM ((by rw [hg]; exact Nat.ne_of_gt (IsS93.lt (show IsS93 w0 _ g s0_0 t130 from by repeat (first | (with_reducible first | exact HI0.out | apply IsS93.alloc | apply IsS93.drewN | apply IsS93.drew | apply IsS93.set_1 | refine IsS93.far ?_ NB0_113.out _) | exact HI0.out))) : gb132 ≠ g))
    clear HO120 HI0 BK113 HK HB
    revert n0_ n1_ n2_ n3_ n4_ n5_ n6_ n7_ n8_ n9_ n10_ n11_
    intro HO120 HI0 BK113 HK HB BK132 GW132 GE132 NB113_132 NB132_113 NB0_132 NB132_0
    clear hb hbox hg
    refine hK.out _ _ trivial (fun hHeld => ?_)
    clear hK K
    refine norm_ (a' := ?_) ?_ ?_
    rotate_left
    ·show Act.put _ (some 3) _ = _
     simp only [Act.put, List.setIfInBounds_toArray, List.set_cons_zero, List.set_cons_succ, i64_w, i32_w]
     rfl
    exact norm_ (by first | (simp only [putAll, Act.put, List.setIfInBounds_toArray, List.set_cons_zero, List.set_cons_succ]; done) | (simp only [putAll, Act.put, List.setIfInBounds_toArray, List.set_cons_zero, List.set_cons_succ]; rfl)) (hJ1_4_5_7_11_14_18 (.slice (some adz_v119) y118.length co25, adz_v119, gb132) _ ⟨HO120.out, ⟨_, rfl⟩, BK113.out, BK132.out, GW132.out, GE132.out, NB0_132.out, NB132_0.out, NB113_132.out, NB132_113.out, HI0.out, HK.out, HB.out⟩)
set_option maxHeartbeats 8000000 in
set_option maxRecDepth 100000 in
theorem spec_l31Out.j1_4_5_7_11_18 (k g : Nat) (s0_0 : List Int) (s0_1 : Int) (w0 w : World) (gb113 : Nat) (t114 t115 t116 t117 t121 t122 t124 t125 t129 t130 : Int) (y118 y126 : List Int) (K : Act → World → Prop) (post : Ending → World → Prop) (hC : spec_l31Out.CX k g s0_0 s0_1 w0 w gb113 t114 t115 t116 t117 t121 t122 t124 t125 t129 t130 y118 y126) (hJ1_4_5_7_9_11_18 : spec_l31Out.J1_4_5_7_9_11_18 k g s0_0 s0_1 w0 w gb113 t114 t115 t116 t117 t121 t122 t124 t125 t129 t130 y118 y126 K post) (hJ1_4_5_7_11_12_18 : spec_l31Out.J1_4_5_7_11_12_18 k g s0_0 s0_1 w0 w gb113 t114 t115 t116 t117 t121 t122 t124 t125 t129 t130 y118 y126 K post) (hJ1_4_5_7_11_14_18 : spec_l31Out.J1_4_5_7_11_14_18 k g s0_0 s0_1 w0 w gb113 t114 t115 t116 t117 t121 t122 t124 t125 t129 t130 y118 y126 K post) : spec_l31Out.J1_4_5_7_11_18 k g s0_0 s0_1 w0 w gb113 t114 t115 t116 t117 t121 t122 t124 t125 t129 t130 y118 y126 K post := by
 obtain ⟨HW0, A2, A3, Ny118, A4, A7, Ny126, A8, GW113, GE113, NB0_113, NB113_0, c5b0, c6b0, c9b0, c10b0⟩ := hC
 have HT_ := qM spec_l31Out.tabO
 have HW_ := qM spec_l31Out.bits1
 have pi123 : (0 ≤ (t121 : Int)) = True := eq_true (of_decide_eq_true c5b0)
 have qi123 : (t121 < (y118.length : Int)) = True := eq_true (of_decide_eq_true c6b0)
 have pi131 : (0 ≤ (t129 : Int)) = True := eq_true (of_decide_eq_true c9b0)
 have qi131 : (t129 < (y126.length : Int)) = True := eq_true (of_decide_eq_true c10b0)
 unfold spec_l31Out.J1_4_5_7_9_11_18 spec_l31Out.FR spec_l31Out.OPS at hJ1_4_5_7_9_11_18
 unfold spec_l31Out.J1_4_5_7_11_12_18 spec_l31Out.FR spec_l31Out.OPS at hJ1_4_5_7_11_12_18
 unfold spec_l31Out.J1_4_5_7_11_14_18 spec_l31Out.FR spec_l31Out.OPS at hJ1_4_5_7_11_14_18
 unfold spec_l31Out.J1_4_5_7_11_18 spec_l31Out.FR spec_l31Out.OPS
 ··skip
   rintro ⟨v119, adz_v119, gb132⟩ w24 ⟨h0_, h1_, h2_, h3_, h4_, h5_, h6_, h7_, h8_, h9_, h10_, h11_, h12_⟩
   have n0_ : Aside0 (Kd.R (Kd.int .i64) 3 w24 w.heap.size (fun _ => True) v119 y118) := ⟨h0_⟩
   have n1_ : Aside0 (∃ c_, (v119 : Value) = .slice (some adz_v119) y118.length c_) := ⟨h1_⟩
   have n2_ : Aside0 (w24.heap[gb113]? = some (.cells #[.int .i64 0, .int .i64 0, .int .i64 0, .int .i64 0] 53 (0, 0))) := ⟨h2_⟩
   have n3_ : Aside0 (w24.heap[gb132]? = some (.cells #[.int .i64 0, .int .i64 0, .int .i64 0, .int .i64 0] 53 (0, 0))) := ⟨h3_⟩
   have n4_ : Aside0 (w.heap.size ≤ gb132) := ⟨h4_⟩
   have n5_ : Aside0 (w0.heap.size ≤ gb132) := ⟨h5_⟩
   have n6_ : Aside0 (g ≠ gb132) := ⟨h6_⟩
   have n7_ : Aside0 (gb132 ≠ g) := ⟨h7_⟩
   have n8_ : Aside0 (gb113 ≠ gb132) := ⟨h8_⟩
   have n9_ : Aside0 (gb132 ≠ gb113) := ⟨h9_⟩
   have n10_ : Aside0 (IsS93 w0 w24 g s0_0 t125) := ⟨h10_⟩
   have n11_ : Aside0 (KeepBut w w24 g none) := ⟨h11_⟩
   have n12_ : Aside0 (Below w0.heap.size w0 w24) := ⟨h12_⟩
   clear h0_ h1_ h2_ h3_ h4_ h5_ h6_ h7_ h8_ h9_ h10_ h11_ h12_
   revert n0_ n1_ n2_ n3_ n4_ n5_ n6_ n7_ n8_ n9_ n10_ n11_ n12_
   intro HO120 HA_HO120 BK113 BK132 GW132 GE132 NB0_132 NB132_0 NB113_132 NB132_113 HI0 HK HB
   have hHeld := trivial
   obtain ⟨co25, eo25⟩ := HA_HO120.out
   clear HA_HO120
   subst eo25
   refine norm_ (a' := ?_) ?_ ?_
   rotate_left
   ·simp only [putAll, Act.put, List.setIfInBounds_toArray, List.set_cons_zero, List.set_cons_succ]
    rfl
   refine three_ (i := 9) (j := 12) (k := 14) (Ni := some 13) (Nj := some 16) (Nk := some 18) spec_l31Out.m24 spec_l31Out.m26 spec_l31Out.m28 rfl rfl rfl rfl rfl rfl (three_of HT_.out (by kernel_rfl)) (by decide) (by decide) (by decide) (fun K hK => ?_) (fun K hK => ?_) (fun K hK => ?_)
   ·skip
    (have p123 : 0 ≤ (t121 : Int) := of_decide_eq_true (by first | (with_reducible assumption) | assumption); have q123 : t121 < (y118.length : Int) := of_decide_eq_true (by first | (with_reducible assumption) | assumption); obtain ⟨ad123, e123, hx123_0⟩ := Kd.at_int (qR HO120.out).2.2 t121 p123 q123; obtain rfl : adz_v119 = ad123 := (by injection e123))
    refine value_ (w1 := ?_) (v := ?_) (by rfl) rfl ?_ ?_
    rotate_left 2
    ·go_simp
     constructor
     ·rfl
     ·rfl
    clear hx123_0
    refine hK.out _ _ trivial (fun hHeld => ?_)
    clear hK K
    refine norm_ (a' := ?_) ?_ ?_
    rotate_left
    ·show Act.put _ (some 13) _ = _
     simp only [Act.put, List.setIfInBounds_toArray, List.set_cons_zero, List.set_cons_succ, i64_w, i32_w]
     rfl
    exact norm_ (by first | (simp only [putAll, Act.put, List.setIfInBounds_toArray, List.set_cons_zero, List.set_cons_succ]; done) | (simp only [putAll, Act.put, List.setIfInBounds_toArray, List.set_cons_zero, List.set_cons_succ]; rfl)) (hJ1_4_5_7_9_11_18 (.slice (some adz_v119) y118.length co25, adz_v119, gb132) _ ⟨HO120.out, ⟨_, rfl⟩, BK113.out, BK132.out, GW132.out, GE132.out, NB0_132.out, NB132_0.out, NB113_132.out, NB132_113.out, HI0.out, HK.out, HB.out⟩)
   ·skip
    refine Kd.R_lit_step (Kd.int .i64) _ 3 ?hg (N := 16) ?hd (xs := ([0, 1, 14, 15, t124] : List Int)) (inner := [.int .i64 0, .int .i64 1, .int .i64 14, .int .i64 15, .int .i64 t124]) (ok := fun _ => True) (okp := fun _ => True) ?hr ?hp (fun _ hk => hk) trivial (Below.refl _ _) (Nat.le_refl _) (by simp) ?_; (case hd => rfl); (case hg => rfl); (case hr => first | (go_simp; done) | (go_simp; rfl)); (case hp => exact (Reps.one (show Kd.M (Kd.int .i64) _ _ _ 0 [.int .i64 0] from rfl) (Reps.one (show Kd.M (Kd.int .i64) _ _ _ 1 [.int .i64 1] from rfl) (Reps.one (show Kd.M (Kd.int .i64) _ _ _ 14 [.int .i64 14] from rfl) (Reps.one (show Kd.M (Kd.int .i64) _ _ _ 15 [.int .i64 15] from rfl) (Reps.one (show Kd.M (Kd.int .i64) _ _ _ t124 [.int .i64 t124] from rfl) (Reps.none _ _)))))))
    intro v127 w26 ho27 hb hg_ hnew_
    clear hg_ hnew_
    (first | rw [← Ny126.out] at ho27 | (simp only [Int.reduceToNat] at ho27; rw [← Ny126.out] at ho27))
    have n0_ := qM (Kd.R_elder' HO120.out (Kd.R_base ho27) hb)
    have n1_ := qM (Kd.R_lower (Kd.R_new' ho27 (Kd.R_lt HO120.out)) (keep_size (w := w) (g := g) (row := none) HK.out))
    have n2_ := qM (IsS93.below HI0.out hb)
    have n3_ := qM (blk_below (g := gb113) (o := .cells #[.int .i64 0, .int .i64 0, .int .i64 0, .int .i64 0] 53 (0, 0)) BK113.out hb)
    have n4_ := qM (blk_below (g := gb132) (o := .cells #[.int .i64 0, .int .i64 0, .int .i64 0, .int .i64 0] 53 (0, 0)) BK132.out hb)
    have n5_ := qM (KeepBut.trans HK.out (KeepBut.of_below hb g none) (.inl rfl))
    have n6_ := qM (below_step HB.out hb)
    clear HO120 HI0 BK113 BK132 HK HB
    revert n0_ n1_ n2_ n3_ n4_ n5_ n6_
    intro HO120 HO128 HI0 BK113 BK132 HK HB
    clear hb ho27
    obtain ⟨Ao28, co28, eo28⟩ := Kd.R_slice HO128.out
    subst eo28
    obtain ⟨ado28, fo28, _⟩ := Kd.at_int (qR HO128.out).2.2 0 (by decide) (by rw [Ny126.out]; simp)
    cases fo28
    refine hK.out _ _ trivial (fun hHeld => ?_)
    clear hK K
    refine norm_ (a' := ?_) ?_ ?_
    rotate_left
    ·show Act.put _ (some 16) _ = _
     simp only [Act.put, List.setIfInBounds_toArray, List.set_cons_zero, List.set_cons_succ, i64_w, i32_w]
     rfl
    exact norm_ (by first | (simp only [putAll, Act.put, List.setIfInBounds_toArray, List.set_cons_zero, List.set_cons_succ]; done) | (simp only [putAll, Act.put, List.setIfInBounds_toArray, List.set_cons_zero, List.set_cons_succ]; rfl)) (hJ1_4_5_7_11_12_18 (.slice (some adz_v119) y118.length co25, adz_v119, .slice (some ado28) y126.length co28, ado28, gb132) _ ⟨(by (with_reducible repeat (first | apply qA | apply qN | apply qD)); exact Kd.R_mono HO120.out (fun _ hk => hk.2)), (by (with_reducible repeat (first | apply qA | apply qN | apply qD)); exact Kd.R_mono HO128.out (fun _ hk => hk.2)), ⟨_, rfl⟩, ⟨_, rfl⟩, BK113.out, BK132.out, GW132.out, GE132.out, NB0_132.out, NB132_0.out, NB113_132.out, NB132_113.out, HI0.out, HK.out, HB.out⟩)
   ·skip
    refine goes_ Try.func53 (by kernel_rfl) rfl #[.pointer (some ⟨g, 0, none⟩), .int .i64 5] (by rfl) rfl rfl (by (try simp only [List.map_toArray, List.map_cons, List.map_nil]); first | done | rfl | (simp only [List.length_drop, List.length_take]; rfl)) ?_
    with_reducible refine (spec_l30Rd_pick.calls k g s0_0 t125 5 t129 t130 w0 _ ?side1 ?side2 A8.out).mono ?_
    (case side1 => repeat (first | (with_reducible first | exact HI0.out | apply IsS93.alloc | apply IsS93.drewN | apply IsS93.drew | apply IsS93.set_1 | refine IsS93.far ?_ NB0_113.out _ | refine IsS93.far ?_ NB0_132.out _) | exact HI0.out))
    (case side2 => repeat (first | (with_reducible first | exact HB.out | apply yA | apply yN | apply yD | refine yS ?_ (IsS93.ge HI0.out) | refine yS ?_ GE113.out | refine yS ?_ GE132.out) | exact HB.out))
    rintro e w26 ⟨rfl, hi, hb, hk⟩
    refine ⟨_, rfl, ?_⟩
    have n0_ := qM (KeepBut.blk hk (g' := gb113) (o := .cells #[.int .i64 0, .int .i64 0, .int .i64 0, .int .i64 0] 53 (0, 0)) BK113.out NB113_0.out (by simp))
    have n1_ := qM (Kd.R_mono (Kd.R_keep (IsS93.apart (show IsS93 w0 _ g s0_0 t125 from by repeat (first | (with_reducible first | exact HI0.out | apply IsS93.alloc | apply IsS93.drewN | apply IsS93.drew | apply IsS93.set_1 | refine IsS93.far ?_ NB0_113.out _ | refine IsS93.far ?_ NB0_132.out _) | exact HI0.out)) HO120.out (by decide)) hk (fun _ h => h.2)) (fun _ h => h.1))
    have n2_ := qM (KeepBut.blk hk (g' := gb132) (o := .cells #[.int .i64 0, .int .i64 0, .int .i64 0, .int .i64 0] 53 (0, 0)) BK132.out NB132_0.out (by simp))
    have n3_ := qM (KeepBut.trans HK.out hk (.inl rfl))
    have n4_ := qM (hb)
    have n5_ := qM (hi)
    clear BK113 HO120 BK132 HK HB HI0
    revert n0_ n1_ n2_ n3_ n4_ n5_
    intro BK113 HO120 BK132 HK HB HI0
    (try clear hb)
    (try clear hb2)
    (try clear hk)
    (try clear hi)
    refine hK.out _ _ trivial (fun hHeld => ?_)
    clear hK K
    refine norm_ (a' := ?_) ?_ ?_
    rotate_left
    ·show Act.put _ (some 18) _ = _
     simp only [Act.put, List.setIfInBounds_toArray, List.set_cons_zero, List.set_cons_succ, i64_w, i32_w]
     rfl
    exact norm_ (by first | (simp only [putAll, Act.put, List.setIfInBounds_toArray, List.set_cons_zero, List.set_cons_succ]; done) | (simp only [putAll, Act.put, List.setIfInBounds_toArray, List.set_cons_zero, List.set_cons_succ]; rfl)) (hJ1_4_5_7_11_14_18 (.slice (some adz_v119) y118.length co25, adz_v119, gb132) _ ⟨HO120.out, ⟨_, rfl⟩, BK113.out, BK132.out, GW132.out, GE132.out, NB0_132.out, NB132_0.out, NB113_132.out, NB132_113.out, HI0.out, HK.out, HB.out⟩)
set_option maxHeartbeats 8000000 in
set_option maxRecDepth 100000 in
theorem spec_l31Out.j1_4_7_11_12_14 (k g : Nat) (s0_0 : List Int) (s0_1 : Int) (w0 w : World) (gb113 : Nat) (t114 t115 t116 t117 t121 t122 t124 t125 t129 t130 : Int) (y118 y126 : List Int) (K : Act → World → Prop) (post : Ending → World → Prop) (hC : spec_l31Out.CX k g s0_0 s0_1 w0 w gb113 t114 t115 t116 t117 t121 t122 t124 t125 t129 t130 y118 y126) (hJ1_4_5_7_11_12_14 : spec_l31Out.J1_4_5_7_11_12_14 k g s0_0 s0_1 w0 w gb113 t114 t115 t116 t117 t121 t122 t124 t125 t129 t130 y118 y126 K post) (hJ1_4_7_11_12_14_16 : spec_l31Out.J1_4_7_11_12_14_16 k g s0_0 s0_1 w0 w gb113 t114 t115 t116 t117 t121 t122 t124 t125 t129 t130 y118 y126 K post) (hJ1_4_7_11_12_14_18 : spec_l31Out.J1_4_7_11_12_14_18 k g s0_0 s0_1 w0 w gb113 t114 t115 t116 t117 t121 t122 t124 t125 t129 t130 y118 y126 K post) : spec_l31Out.J1_4_7_11_12_14 k g s0_0 s0_1 w0 w gb113 t114 t115 t116 t117 t121 t122 t124 t125 t129 t130 y118 y126 K post := by
 obtain ⟨HW0, A2, A3, Ny118, A4, A7, Ny126, A8, GW113, GE113, NB0_113, NB113_0, c5b0, c6b0, c9b0, c10b0⟩ := hC
 have HT_ := qM spec_l31Out.tabO
 have HW_ := qM spec_l31Out.bits1
 have pi123 : (0 ≤ (t121 : Int)) = True := eq_true (of_decide_eq_true c5b0)
 have qi123 : (t121 < (y118.length : Int)) = True := eq_true (of_decide_eq_true c6b0)
 have pi131 : (0 ≤ (t129 : Int)) = True := eq_true (of_decide_eq_true c9b0)
 have qi131 : (t129 < (y126.length : Int)) = True := eq_true (of_decide_eq_true c10b0)
 unfold spec_l31Out.J1_4_5_7_11_12_14 spec_l31Out.FR spec_l31Out.OPS at hJ1_4_5_7_11_12_14
 unfold spec_l31Out.J1_4_7_11_12_14_16 spec_l31Out.FR spec_l31Out.OPS at hJ1_4_7_11_12_14_16
 unfold spec_l31Out.J1_4_7_11_12_14_18 spec_l31Out.FR spec_l31Out.OPS at hJ1_4_7_11_12_14_18
 unfold spec_l31Out.J1_4_7_11_12_14 spec_l31Out.FR spec_l31Out.OPS
 ··skip
   rintro ⟨v127, adz_v127⟩ w24 ⟨h0_, h1_, h2_, h3_, h4_, h5_⟩
   have n0_ : Aside0 (Kd.R (Kd.int .i64) 3 w24 w.heap.size (fun _ => True) v127 y126) := ⟨h0_⟩
   have n1_ : Aside0 (∃ c_, (v127 : Value) = .slice (some adz_v127) y126.length c_) := ⟨h1_⟩
   have n2_ : Aside0 (w24.heap[gb113]? = some (.cells #[.int .i64 0, .int .i64 0, .int .i64 0, .int .i64 0] 53 (0, 0))) := ⟨h2_⟩
   have n3_ : Aside0 (IsS93 w0 w24 g s0_0 t130) := ⟨h3_⟩
   have n4_ : Aside0 (KeepBut w w24 g none) := ⟨h4_⟩
   have n5_ : Aside0 (Below w0.heap.size w0 w24) := ⟨h5_⟩
   clear h0_ h1_ h2_ h3_ h4_ h5_
   revert n0_ n1_ n2_ n3_ n4_ n5_
   intro HO128 HA_HO128 BK113 HI0 HK HB
   have hHeld := trivial
   obtain ⟨co25, eo25⟩ := HA_HO128.out
   clear HA_HO128
   subst eo25
   refine norm_ (a' := ?_) ?_ ?_
   rotate_left
   ·simp only [putAll, Act.put, List.setIfInBounds_toArray, List.set_cons_zero, List.set_cons_succ]
    rfl
   refine three_ (i := 5) (j := 16) (k := 18) (Ni := some 9) (Nj := some 20) (Nk := some 3) spec_l31Out.m40 spec_l31Out.m29 spec_l31Out.m31 rfl rfl rfl rfl rfl rfl (three_of HT_.out (by kernel_rfl)) (by decide) (by decide) (by decide) (fun K hK => ?_) (fun K hK => ?_) (fun K hK => ?_)
   ·skip
    refine Kd.R_lit_step (Kd.int .i64) _ 3 ?hg (N := 9) ?hd (xs := ([0, 1, 2, 199, 200] : List Int)) (inner := [.int .i64 0, .int .i64 1, .int .i64 2, .int .i64 199, .int .i64 200]) (ok := fun _ => True) (okp := fun _ => True) ?hr ?hp (fun _ hk => hk) trivial (Below.refl _ _) (Nat.le_refl _) (by simp) ?_; (case hd => rfl); (case hg => rfl); (case hr => first | (go_simp; done) | (go_simp; rfl)); (case hp => exact (Reps.one (show Kd.M (Kd.int .i64) _ _ _ 0 [.int .i64 0] from rfl) (Reps.one (show Kd.M (Kd.int .i64) _ _ _ 1 [.int .i64 1] from rfl) (Reps.one (show Kd.M (Kd.int .i64) _ _ _ 2 [.int .i64 2] from rfl) (Reps.one (show Kd.M (Kd.int .i64) _ _ _ 199 [.int .i64 199] from rfl) (Reps.one (show Kd.M (Kd.int .i64) _ _ _ 200 [.int .i64 200] from rfl) (Reps.none _ _)))))))
    intro v119 w26 ho27 hb hg_ hnew_
    clear hg_ hnew_
    (first | rw [← Ny118.out] at ho27 | (simp only [Int.reduceToNat] at ho27; rw [← Ny118.out] at ho27))
    have n0_ := qM (Kd.R_elder' HO128.out (Kd.R_base ho27) hb)
    have n1_ := qM (Kd.R_lower (Kd.R_new' ho27 (Kd.R_lt HO128.out)) (keep_size (w := w) (g := g) (row := none) HK.out))
    have n2_ := qM (IsS93.below HI0.out hb)
    have n3_ := qM (blk_below (g := gb113) (o := .cells #[.int .i64 0, .int .i64 0, .int .i64 0, .int .i64 0] 53 (0, 0)) BK113.out hb)
    have n4_ := qM (KeepBut.trans HK.out (KeepBut.of_below hb g none) (.inl rfl))
    have n5_ := qM (below_step HB.out hb)
    clear HO128 HI0 BK113 HK HB
    revert n0_ n1_ n2_ n3_ n4_ n5_
    intro HO128 HO120 HI0 BK113 HK HB
    clear hb ho27
    obtain ⟨Ao28, co28, eo28⟩ := Kd.R_slice HO120.out
    subst eo28
    obtain ⟨ado28, fo28, _⟩ := Kd.at_int (qR HO120.out).2.2 0 (by decide) (by rw [Ny118.out]; simp)
    cases fo28
    refine hK.out _ _ trivial (fun hHeld => ?_)
    clear hK K
    refine norm_ (a' := ?_) ?_ ?_
    rotate_left
    ·show Act.put _ (some 9) _ = _
     simp only [Act.put, List.setIfInBounds_toArray, List.set_cons_zero, List.set_cons_succ, i64_w, i32_w]
     rfl
    refine pure_ (i := 8) (N := some 12) (v := ?_) (a' := ?_) spec_l31Out.m25 rfl rfl (any_of HT_.out (by kernel_rfl)) (fun _ _ _ h => h) (Or.inl ⟨by rfl, ?_⟩) ?_ ?_
    rotate_left
    ·intro w'
     go_simp
     with_reducible rfl
    rotate_left
    ·simp only [Act.put, List.setIfInBounds_toArray, List.set_cons_zero, List.set_cons_succ, i64_w, i32_w]
     rfl
    exact norm_ (by first | (simp only [putAll, Act.put, List.setIfInBounds_toArray, List.set_cons_zero, List.set_cons_succ]; done) | (simp only [putAll, Act.put, List.setIfInBounds_toArray, List.set_cons_zero, List.set_cons_succ]; rfl)) (hJ1_4_5_7_11_12_14 (.slice (some ado28) y118.length co28, ado28, .slice (some adz_v127) y126.length co25, adz_v127) _ ⟨(by (with_reducible repeat (first | apply qA | apply qN | apply qD)); exact Kd.R_mono HO120.out (fun _ hk => hk.2)), (by (with_reducible repeat (first | apply qA | apply qN | apply qD)); exact Kd.R_mono HO128.out (fun _ hk => hk.2)), ⟨_, rfl⟩, ⟨_, rfl⟩, BK113.out, HI0.out, HK.out, HB.out⟩)
   ·skip
    (have p131 : 0 ≤ (t129 : Int) := of_decide_eq_true (by first | (with_reducible assumption) | assumption); have q131 : t129 < (y126.length : Int) := of_decide_eq_true (by first | (with_reducible assumption) | assumption); obtain ⟨ad131, e131, hx131_0⟩ := Kd.at_int (qR HO128.out).2.2 t129 p131 q131; obtain rfl : adz_v127 = ad131 := (by injection e131))
    refine value_ (w1 := ?_) (v := ?_) (by rfl) rfl ?_ ?_
    rotate_left 2
    ·go_simp
     constructor
     ·rfl
     ·rfl
    clear hx131_0
    refine hK.out _ _ trivial (fun hHeld => ?_)
    clear hK K
    refine norm_ (a' := ?_) ?_ ?_
    rotate_left
    ·show Act.put _ (some 20) _ = _
     simp only [Act.put, List.setIfInBounds_toArray, List.set_cons_zero, List.set_cons_succ, i64_w, i32_w]
     rfl
    exact norm_ (by first | (simp only [putAll, Act.put, List.setIfInBounds_toArray, List.set_cons_zero, List.set_cons_succ]; done) | (simp only [putAll, Act.put, List.setIfInBounds_toArray, List.set_cons_zero, List.set_cons_succ]; rfl)) (hJ1_4_7_11_12_14_16 (.slice (some adz_v127) y126.length co25, adz_v127) _ ⟨HO128.out, ⟨_, rfl⟩, BK113.out, HI0.out, HK.out, HB.out⟩)
   ·skip
    refine box_step ?hg (N := 3) ?hd (cs := #[.int .i64 0, .int .i64 0, .int .i64 0, .int .i64 0]) (t := 53) ?hr ?_; (case hd => rfl); (case hg => rfl); (case hr => first | (go_simp; done) | (go_simp; rfl))
    intro gb132 hg w26 hbox hb
    have n0_ := qM (Kd.R_below HO128.out hb)
    have n1_ := qM (IsS93.below HI0.out hb)
    have n2_ := qM (blk_below (g := gb113) (o := .cells #[.int .i64 0, .int .i64 0, .int .i64 0, .int .i64 0] 53 (0, 0)) BK113.out hb)
    have n3_ := qM (KeepBut.trans HK.out (KeepBut.of_below hb g none) (.inl rfl))
    have n4_ := qM (below_step HB.out hb)
    have n5_ := qM (hbox)
    have n6_ := qM ((by rw [hg]; exact (keep_size (w := w) (g := g) (row := none) HK.out) : w.heap.size ≤ gb132))
    have n7_ := qM ((Nat.le_trans HW0.out (by rw [hg]; exact (keep_size (w := w) (g := g) (row := none) HK.out) : w.heap.size ≤ gb132) : w0.heap.size ≤ gb132))
    have n8_ := qM ((by rw [hg]; exact Nat.ne_of_lt (blk_lt (g := gb113) (o := .cells #[.int .i64 0, .int .i64 0, .int .i64 0, .int .i64 0] 53 (0, 0)) BK113.out) : gb113 ≠ gb132))
    have n9_ := qM ((by rw [hg]; exact Nat.ne_of_gt (blk_lt (g := gb113) (o := .cells #[.int .i64 0, .int .i64 0, .int .i64 0, .int .i64 0] 53 (0, 0)) BK113.out) : gb132 ≠ gb113))
    have n10_ := qM ((by rw [hg]; exact Nat.ne_of_lt (IsS93.lt (show IsS93 w0 _ g s0_0 t130 from by repeat (first | (with_reducible first | exact HI0.out | apply IsS93.alloc | apply IsS93.drewN | apply IsS93.drew | apply IsS93.set_1 | refine IsS93.far ?_ NB0_113.out _) | exact HI0.out))) : g ≠ gb132))
    have n11_ := qM ((by rw [hg]; exact Nat.ne_of_gt (IsS93.lt (show IsS93 w0 _ g s0_0 t130 from by repeat (first | (with_reducible first | exact HI0.out | apply IsS93.alloc | apply IsS93.drewN | apply IsS93.drew | apply IsS93.set_1 | refine IsS93.far ?_ NB0_113.out _) | exact HI0.out))) : gb132 ≠ g))
    clear HO128 HI0 BK113 HK HB
    revert n0_ n1_ n2_ n3_ n4_ n5_ n6_ n7_ n8_ n9_ n10_ n11_
    intro HO128 HI0 BK113 HK HB BK132 GW132 GE132 NB113_132 NB132_113 NB0_132 NB132_0
    clear hb hbox hg
    refine hK.out _ _ trivial (fun hHeld => ?_)
    clear hK K
    refine norm_ (a' := ?_) ?_ ?_
    rotate_left
    ·show Act.put _ (some 3) _ = _
     simp only [Act.put, List.setIfInBounds_toArray, List.set_cons_zero, List.set_cons_succ, i64_w, i32_w]
     rfl
    exact norm_ (by first | (simp only [putAll, Act.put, List.setIfInBounds_toArray, List.set_cons_zero, List.set_cons_succ]; done) | (simp only [putAll, Act.put, List.setIfInBounds_toArray, List.set_cons_zero, List.set_cons_succ]; rfl)) (hJ1_4_7_11_12_14_18 (.slice (some adz_v127) y126.length co25, adz_v127, gb132) _ ⟨HO128.out, ⟨_, rfl⟩, BK113.out, BK132.out, GW132.out, GE132.out, NB0_132.out, NB132_0.out, NB113_132.out, NB132_113.out, HI0.out, HK.out, HB.out⟩)
end Go.Proofs.Ytaohaebgpbagmaa.PFnOutPeer
