/- Functions that a law reaches, each with the walk that shows what its call answers; laid by a program of this session. -/
import Derived.Test.YtcnipdbommmkmaaPFnCelInputBx0
import Derived.Test.YtcnipdbommmkmaaPFnCelInputBx1
import Derived.Test.YtcnipdbommmkmaaPFnCelInputBx2
import Derived.Test.YtcnipdbommmkmaaPFnCelInputBx4
namespace Go.Proofs.Ytcnipdbommmkmaa.PFnCelInputB
open Go.RowKit Go.Proofs.YtcnipdbommmkmaaW.PrintWords Go.Proofs.YtcnipdbommmkmaaW.PrintLast Go.Proofs.YtcnipdbommmkmaaW.PrintMore
attribute [local go_sem] max2_int min2_int max_two min_two max_three min_three max_four min_four   -- for this text's walks alone
set_option linter.unusedVariables false
set_option linter.unusedSimpArgs false

open Go.Proofs.YtcnipdbommmkmaaAl
/-! ### spec_DrawCelInput: function 38 -/
def spec_DrawCelInput.f (k : Nat) (l0 : List Int) : Option (Int × List Int × List Int × Int × List Int × Int) := (spec_l30Open.f l0).bind fun bt233 => ((spec_l31Cell.f k bt233.1 bt233.2).bind fun bt236 => ((spec_l30Rd_pick.f k bt233.1 bt236.2.2.2.2.2 256).bind fun bt248 => ((some (([0, 255, bt248.1, (-1), 256] : List Int) : List Int)).bind fun y250 => ((spec_l30Rd_pick.f k bt233.1 bt248.2 5).bind fun bt253 => (if 0 ≤ bt253.1 then (if bt253.1 < (y250.length : Int) then (some (bt236.1, bt236.2.1, bt236.2.2.1, bt236.2.2.2.1, bt236.2.2.2.2.1, rd y250 bt253.1)) else (none)) else (none))))))
theorem spec_DrawCelInput.mono : ∀ a0 k, LeO (spec_DrawCelInput.f k a0) (spec_DrawCelInput.f (k + 1) a0) := by
  intro a0 k
  unfold spec_DrawCelInput.f
  repeat' first
      | (with_reducible exact spec_l30Rd_pick.mono _ _ _ _)
      | (with_reducible exact spec_l31Cell.mono _ _ _)
      | (with_reducible exact LeO.refl _)
      | (with_reducible exact LeO.none _)
      | (with_reducible refine LeO.ite ?_ ?_)
      | (with_reducible refine LeO.bind ?_ (fun _ => ?_))
      | exact spec_l30Rd_pick.mono _ _ _ _
      | exact spec_l31Cell.mono _ _ _
      | exact LeO.none _
      | refine LeO.ite ?_ ?_
      | refine LeO.bind ?_ (fun _ => ?_)
def spec_DrawCelInput.T2 : Bool × List (List Nat × List Nat) := (true, [([], []), ([0], [0]), ([], []), ([2, 1], [2]), ([3], [3]), ([], []), ([5, 3], [5]), ([4, 6], [4, 6]), ([7], [7]), ([1, 6, 0, 1], [1]), ([8, 9, 0, 1, 2, 3, 4, 5, 6, 7, 8, 9], [8])])
def spec_DrawCelInput.B2 : List Nat := [0, 1, 0, 7, 15, 0, 47, 127, 255, 111, 1023]
theorem spec_DrawCelInput.tab2 : rtab .any (opsOf Try.f38 2) = spec_DrawCelInput.T2 := by kernel_rfl
theorem spec_DrawCelInput.bits2 : waitsOk spec_DrawCelInput.T2.2 spec_DrawCelInput.B2 = true := by kernel_rfl
set_option maxHeartbeats 8000000 in
set_option maxRecDepth 100000 in
theorem spec_DrawCelInput.calls (k : Nat) (A0 : Option Addr) (c0 : Nat) (l0 : List Int) (r1 : Int) (r2 : List Int) (r3 : List Int) (r4 : Int) (r5 : List Int) (r6 : Int) (w : World) (hr0 : Kd.C (Kd.int .u8) w A0 l0.length l0) (hc0 : l0.length ≤ c0) (h : spec_DrawCelInput.f k l0 = some (r1, r2, r3, r4, r5, r6)) :
    Calls Try.prog 38 #[.slice A0 l0.length c0] w fun e w' => ∃ v1_ v2_ v4_ : Value, e = .returned (.tuple #[.agg #[.int .i64 r1, v1_, v2_, .int .i64 r4, v4_], .int .i64 r6]) ∧ Kd.R (Kd.int .i64) 3 w' w.heap.size (fun k_ => some k_ ≠ (v2_ : Value).ownBlock) v1_ r2 ∧ Kd.R (Kd.int .i64) 3 w' w.heap.size (fun k_ => some k_ ≠ (v1_ : Value).ownBlock) v2_ r3 ∧ Kd.R (Kd.int .u8) 5 w' w.heap.size (fun _ => True) v4_ r5 ∧ Below w.heap.size w w' := by
  have hu48 := Try.underlying48
  have HR0 := qM hr0
  have HC0 := qM hc0
  clear hr0 hc0
  have HB := qM (Below.refl w.heap.size w)
  have H : ((spec_l30Open.f l0).bind fun bt233 => ((spec_l31Cell.f k bt233.1 bt233.2).bind fun bt236 => ((spec_l30Rd_pick.f k bt233.1 bt236.2.2.2.2.2 256).bind fun bt248 => ((some (([0, 255, bt248.1, (-1), 256] : List Int) : List Int)).bind fun y250 => ((spec_l30Rd_pick.f k bt233.1 bt248.2 5).bind fun bt253 => (if 0 ≤ bt253.1 then (if bt253.1 < (y250.length : Int) then (some (bt236.1, bt236.2.1, bt236.2.2.1, bt236.2.2.2.1, bt236.2.2.2.2.1, rd y250 bt253.1)) else (none)) else (none))))))) = some (r1, r2, r3, r4, r5, r6) := h
  clear h
  replace H := Option.bind_eq_some_iff.mp H
  obtain ⟨⟨t233, t234⟩, A20, H⟩ := H
  replace H : ((spec_l31Cell.f k t233 t234).bind fun bt236 => ((spec_l30Rd_pick.f k t233 bt236.2.2.2.2.2 256).bind fun bt248 => ((some (([0, 255, bt248.1, (-1), 256] : List Int) : List Int)).bind fun y250 => ((spec_l30Rd_pick.f k t233 bt248.2 5).bind fun bt253 => (if 0 ≤ bt253.1 then (if bt253.1 < (y250.length : Int) then (some (bt236.1, bt236.2.1, bt236.2.2.1, bt236.2.2.2.1, bt236.2.2.2.2.1, rd y250 bt253.1)) else (none)) else (none)))))) = some (r1, r2, r3, r4, r5, r6) := H
  have A2 := qM A20
  clear A20
  replace H := Option.bind_eq_some_iff.mp H
  obtain ⟨⟨t236, t237, t240, t243, t244, t247⟩, A30, H⟩ := H
  replace H : ((spec_l30Rd_pick.f k t233 t247 256).bind fun bt248 => ((some (([0, 255, bt248.1, (-1), 256] : List Int) : List Int)).bind fun y250 => ((spec_l30Rd_pick.f k t233 bt248.2 5).bind fun bt253 => (if 0 ≤ bt253.1 then (if bt253.1 < (y250.length : Int) then (some (t236, t237, t240, t243, t244, rd y250 bt253.1)) else (none)) else (none))))) = some (r1, r2, r3, r4, r5, r6) := H
  have A3 := qM A30
  clear A30
  replace H := Option.bind_eq_some_iff.mp H
  obtain ⟨⟨t248, t249⟩, A40, H⟩ := H
  replace H : ((some (([0, 255, t248, (-1), 256] : List Int) : List Int)).bind fun y250 => ((spec_l30Rd_pick.f k t233 t249 5).bind fun bt253 => (if 0 ≤ bt253.1 then (if bt253.1 < (y250.length : Int) then (some (t236, t237, t240, t243, t244, rd y250 bt253.1)) else (none)) else (none)))) = some (r1, r2, r3, r4, r5, r6) := H
  have A4 := qM A40
  clear A40
  obtain ⟨y250, hy250⟩ : ∃ y_ : List Int, y_ = (([0, 255, t248, (-1), 256] : List Int)) := ⟨_, rfl⟩
  replace H : ((spec_l30Rd_pick.f k t233 t249 5).bind fun bt253 => (if 0 ≤ bt253.1 then (if bt253.1 < (y250.length : Int) then (some (t236, t237, t240, t243, t244, rd y250 bt253.1)) else (none)) else (none))) = some (r1, r2, r3, r4, r5, r6) := by first | (rw [hy250]; with_reducible exact H) | (have H2_ := (Option.bind_some _ _).symm.trans H; rw [hy250]; with_reducible exact H2_) | (have H2_ := (Option.bind_some _ _).symm.trans H; with_reducible exact H2_) | with_reducible exact H | (rw [hy250]; exact H) | exact H
  have Ny250 := qM hy250
  clear hy250
  replace H := Option.bind_eq_some_iff.mp H
  obtain ⟨⟨t253, t254⟩, A50, H⟩ := H
  replace H : (if 0 ≤ t253 then (if t253 < (y250.length : Int) then (some (t236, t237, t240, t243, t244, rd y250 t253)) else (none)) else (none)) = some (r1, r2, r3, r4, r5, r6) := H
  have A5 := qM A50
  clear A50
  by_cases c6 : 0 ≤ t253
  · rw [if_pos c6] at H
    have c6b0 : decide (0 ≤ t253) = true := decide_eq_true c6
    clear c6
    by_cases c7 : t253 < (y250.length : Int)
    · rw [if_pos c7] at H
      have c7b0 : decide (t253 < (y250.length : Int)) = true := decide_eq_true c7
      clear c7
      simp only [Option.some.injEq, Prod.mk.injEq] at H
      obtain ⟨rfl, rfl, rfl, rfl, rfl, rfl⟩ := H
      go_enter Try.func38, Try.ntmps38
      try go_wp2_with (first | ((with_reducible refine gate_dst (N := 2) rfl ?_); refine box_event ?hg (N := 2) ?hd (cs := #[.int .i64 0, .slice none 0 0, .slice none 0 0, .int .i64 0, .slice none 0 0]) (t := 48) ?hr ?_; (case hd => rfl); (case hg => rfl); (case hr => first | (go_simp; done) | (go_simp; rfl)); intro gb232 hg w8 hbox hb; have n0_ := qM (below_step (by repeat (first | (with_reducible first | exact HB.out | apply yA | apply yN | apply yD) | exact HB.out)) hb); have n1_ := qM (hbox); have n2_ := qM ((by rw [hg]; exact (below_size (by repeat (first | (with_reducible first | exact HB.out | apply yA | apply yN | apply yD) | exact HB.out))) : w.heap.size ≤ gb232)); have n3_ := qM ((by rw [hg]; exact (below_size (by repeat (first | (with_reducible first | exact HB.out | apply yA | apply yN | apply yD) | exact HB.out))) : w.heap.size ≤ gb232)); clear HB; have HB := n0_; have BK232 := n1_; have GW232 := n2_; have GE232 := n3_; clear n0_ n1_ n2_ n3_; clear hb hbox hg) | ((with_reducible refine gate_callee (f := 71) rfl ?_); refine goesL_ (some 6) rfl rfl Try.func71 (by kernel_rfl) rfl #[.slice A0 l0.length c0] rfl (by (try simp only [List.map_toArray, List.map_cons, List.map_nil]); first | done | rfl | (simp only [List.length_drop, List.length_take]; rfl)) ?_; (with_reducible refine (spec_l30Open.calls _ _ l0 t233 t234 w _ ?side1 ?side2 ?side3 A2.out).mono ?_); (case side1 => repeat (first | (with_reducible first | exact HB.out | apply yA | apply yN | apply yD | refine yS ?_ GE232.out) | exact HB.out)); (case side2 => exact HR0.out); (case side3 => exact HC0.out); rintro e w9 ⟨g235, rfl, hi, hb, hb2⟩; refine ⟨_, rfl, ?_⟩; have n0_ := qM (blk_below (g := gb232) (o := .cells #[.int .i64 0, .slice none 0 0, .slice none 0 0, .int .i64 0, .slice none 0 0] 48 (0, 0)) (by (with_reducible repeat (first | refine zN ?_ _ | refine zD ?_ | refine zA ?_ _)); exact BK232.out) hb2); have n1_ := qM (hb); have n2_ := qM (hi); have n3_ := qM (IsS103.ne_blk hi (blk_below (g := gb232) (o := .cells #[.int .i64 0, .slice none 0 0, .slice none 0 0, .int .i64 0, .slice none 0 0] 48 (0, 0)) (by (with_reducible repeat (first | refine zN ?_ _ | refine zD ?_ | refine zA ?_ _)); exact BK232.out) hb2) (by decide)); have n4_ := qM (Ne.symm (IsS103.ne_blk hi (blk_below (g := gb232) (o := .cells #[.int .i64 0, .slice none 0 0, .slice none 0 0, .int .i64 0, .slice none 0 0] 48 (0, 0)) (by (with_reducible repeat (first | refine zN ?_ _ | refine zD ?_ | refine zA ?_ _)); exact BK232.out) hb2) (by decide))); clear BK232; clear HB; have BK232 := n0_; have HB := n1_; have HI235 := n2_; have NB235_232 := n3_; have NB232_235 := n4_; clear n0_ n1_ n2_ n3_ n4_; (try clear hb); (try clear hb2); (try clear hk); (try clear hi)))
      have pi255 : (0 ≤ (t253 : Int)) = True := eq_true (of_decide_eq_true (by first | (with_reducible assumption) | assumption))
      have qi255 : (t253 < (y250.length : Int)) = True := eq_true (of_decide_eq_true (by first | (with_reducible assumption) | assumption))
      have n0_ := qM (zD BK232.out)
      have n1_ := qM (IsS103.drew HI235.out)
      have n2_ := qM (yD HB.out)
      clear BK232
      clear HI235
      clear HB
      have BK232 := n0_
      have HI235 := n1_
      have HB := n2_
      clear n0_ n1_ n2_
      refine start_ (n := 11) (S := fun w' => True) (ds := []) #[false, false, false, false, false, false, false, false, false, false, false] (by kernel_rfl) rfl rfl trivial (fun hHeld => ?_); refine with_tabW spec_DrawCelInput.tab2 spec_DrawCelInput.bits2 (fun HT_ HW_ => ?_)
      generalize w9.drew = w10 at BK232 HI235 HB hHeld ⊢
      refine pure_ (i := 0) (N := some 7) (v := ?_) (a' := ?_) #[true, false, false, false, false, false, false, false, false, false, false] rfl rfl (any_of HT_.out (by kernel_rfl)) (fun _ _ _ h => h) (Or.inl ⟨by rfl, ?_⟩) ?_ ?_
      rotate_left
      · intro w'
        go_simp
        with_reducible rfl
      rotate_left
      · simp only [Act.put, List.setIfInBounds_toArray, List.set_cons_zero, List.set_cons_succ, i64_w, i32_w]
        rfl
      refine pure_ (i := 2) (N := some 9) (v := ?_) (a' := ?_) #[true, false, true, false, false, false, false, false, false, false, false] rfl rfl (any_of HT_.out (by kernel_rfl)) (fun _ _ _ h => h) (Or.inl ⟨by rfl, ?_⟩) ?_ ?_
      rotate_left
      · intro w'
        go_simp
        with_reducible rfl
      rotate_left
      · simp only [Act.put, List.setIfInBounds_toArray, List.set_cons_zero, List.set_cons_succ, i64_w, i32_w]
        rfl
      refine pure_ (i := 5) (N := some 12) (v := ?_) (a' := ?_) #[true, false, true, false, false, true, false, false, false, false, false] rfl rfl (any_of HT_.out (by kernel_rfl)) (fun _ _ _ h => h) (Or.inl ⟨by rfl, ?_⟩) ?_ ?_
      rotate_left
      · intro w'
        go_simp
        with_reducible rfl
      rotate_left
      · simp only [Act.put, List.setIfInBounds_toArray, List.set_cons_zero, List.set_cons_succ, i64_w, i32_w]
        rfl
      refine one_ (i := 1) (N := some 8) #[true, true, true, false, false, true, false, false, false, false, false] rfl rfl (one_of HT_.out (by kernel_rfl)) (by decide) (fun K hK => ?_)
      refine goes_ Try.func72 (by kernel_rfl) rfl #[.pointer (some ⟨g235, 0, none⟩)] (by rfl) rfl rfl (by (try simp only [List.map_toArray, List.map_cons, List.map_nil]); first | done | rfl | (simp only [List.length_drop, List.length_take]; rfl)) ?_
      with_reducible refine (spec_l31Cell.calls k g235 t233 t234 t236 t237 t240 t243 t244 t247 w _ ?side1 ?side2 A3.out).mono ?_
      (case side1 => repeat (first | (with_reducible first | exact HI235.out | apply IsS103.alloc | apply IsS103.drewN | apply IsS103.drew | apply IsS103.set_1 | refine IsS103.far ?_ NB235_232.out _) | exact HI235.out))
      (case side2 => repeat (first | (with_reducible first | exact HB.out | apply yA | apply yN | apply yD | refine yS ?_ (IsS103.ge HI235.out) | refine yS ?_ GE232.out) | exact HB.out))
      rintro e w11 ⟨v238, v241, v245, rfl, ho0, ho1, ho2, hi, hb, hk⟩
      obtain ⟨Aqv238, cqv238, eqv238⟩ := Kd.R_slice ho0
      subst eqv238
      obtain ⟨Aqv241, cqv241, eqv241⟩ := Kd.R_slice ho1
      subst eqv241
      obtain ⟨Aqv245, cqv245, eqv245⟩ := Kd.R_slice ho2
      subst eqv245
      refine ⟨_, rfl, ?_⟩
      have n0_ := qM (KeepBut.blk hk (g' := gb232) (o := .cells #[.int .i64 0, .slice none 0 0, .slice none 0 0, .int .i64 0, .slice none 0 0] 48 (0, 0)) (by (with_reducible repeat (first | refine zN ?_ _ | refine zD ?_ | refine zA ?_ _)); exact BK232.out) NB232_235.out (by simp))
      have n1_ := qM (Kd.R_lower ho0 (below_size (by repeat (first | (with_reducible first | exact HB.out | apply yA | apply yN | apply yD | refine yS ?_ (IsS103.ge HI235.out) | refine yS ?_ GE232.out) | exact HB.out))))
      have n2_ := qM (Kd.R_lower ho1 (below_size (by repeat (first | (with_reducible first | exact HB.out | apply yA | apply yN | apply yD | refine yS ?_ (IsS103.ge HI235.out) | refine yS ?_ GE232.out) | exact HB.out))))
      have n3_ := qM (Kd.R_lower ho2 (below_size (by repeat (first | (with_reducible first | exact HB.out | apply yA | apply yN | apply yD | refine yS ?_ (IsS103.ge HI235.out) | refine yS ?_ GE232.out) | exact HB.out))))
      have n4_ := qM (hb)
      have n5_ := qM (hi)
      clear BK232
      clear HB
      clear HI235
      have BK232 := n0_
      have HO239 := n1_
      have HO242 := n2_
      have HO246 := n3_
      have HB := n4_
      have HI235 := n5_
      clear n0_ n1_ n2_ n3_ n4_ n5_
      (try clear hb)
      (try clear hb2)
      (try clear hk)
      (try clear hi)
      (try clear ho0)
      (try clear ho1)
      (try clear ho2)
      refine hK.out _ _ trivial (fun hHeld => ?_)
      clear hK K
      refine norm_ (a' := ?_) ?_ ?_
      rotate_left
      · show Act.put _ (some 8) _ = _
        simp only [Act.put, List.setIfInBounds_toArray, List.set_cons_zero, List.set_cons_succ, i64_w, i32_w]
        rfl
      refine one_ (i := 3) (N := some 10) #[true, true, true, true, false, true, false, false, false, false, false] rfl rfl (one_of HT_.out (by kernel_rfl)) (by decide) (fun K hK => ?_)
      refine goes_ Try.func73 (by kernel_rfl) rfl #[.pointer (some ⟨g235, 0, none⟩), .int .i64 256] (by rfl) rfl rfl (by (try simp only [List.map_toArray, List.map_cons, List.map_nil]); first | done | rfl | (simp only [List.length_drop, List.length_take]; rfl)) ?_
      with_reducible refine (spec_l30Rd_pick.calls k g235 t233 t247 256 t248 t249 w _ ?side1 ?side2 A4.out).mono ?_
      (case side1 => repeat (first | (with_reducible first | exact HI235.out | apply IsS103.alloc | apply IsS103.drewN | apply IsS103.drew | apply IsS103.set_1 | refine IsS103.far ?_ NB235_232.out _) | exact HI235.out))
      (case side2 => repeat (first | (with_reducible first | exact HB.out | apply yA | apply yN | apply yD | refine yS ?_ (IsS103.ge HI235.out) | refine yS ?_ GE232.out) | exact HB.out))
      rintro e w12 ⟨rfl, hi, hb, hk⟩
      refine ⟨_, rfl, ?_⟩
      have n0_ := qM (KeepBut.blk hk (g' := gb232) (o := .cells #[.int .i64 0, .slice none 0 0, .slice none 0 0, .int .i64 0, .slice none 0 0] 48 (0, 0)) (by (with_reducible repeat (first | refine zN ?_ _ | refine zD ?_ | refine zA ?_ _)); exact BK232.out) NB232_235.out (by simp))
      have n1_ := qM (Kd.R_mono (Kd.R_keep (IsS103.apart (show IsS103 w _ g235 t233 t247 from by repeat (first | (with_reducible first | exact HI235.out | apply IsS103.alloc | apply IsS103.drewN | apply IsS103.drew | apply IsS103.set_1 | refine IsS103.far ?_ NB235_232.out _) | exact HI235.out)) (by (with_reducible repeat (first | apply qA | apply qN | apply qD)); exact HO239.out) (by decide)) hk (fun _ h => h.2)) (fun _ h => h.1))
      have n2_ := qM (Kd.R_mono (Kd.R_keep (IsS103.apart (show IsS103 w _ g235 t233 t247 from by repeat (first | (with_reducible first | exact HI235.out | apply IsS103.alloc | apply IsS103.drewN | apply IsS103.drew | apply IsS103.set_1 | refine IsS103.far ?_ NB235_232.out _) | exact HI235.out)) (by (with_reducible repeat (first | apply qA | apply qN | apply qD)); exact HO242.out) (by decide)) hk (fun _ h => h.2)) (fun _ h => h.1))
      have n3_ := qM (Kd.R_mono (Kd.R_keep (IsS103.apart (show IsS103 w _ g235 t233 t247 from by repeat (first | (with_reducible first | exact HI235.out | apply IsS103.alloc | apply IsS103.drewN | apply IsS103.drew | apply IsS103.set_1 | refine IsS103.far ?_ NB235_232.out _) | exact HI235.out)) (by (with_reducible repeat (first | apply qA | apply qN | apply qD)); exact HO246.out) (by decide)) hk (fun _ h => h.2)) (fun _ h => h.1))
      have n4_ := qM (hb)
      have n5_ := qM (hi)
      clear BK232
      clear HO239
      clear HO242
      clear HO246
      clear HB
      clear HI235
      have BK232 := n0_
      have HO239 := n1_
      have HO242 := n2_
      have HO246 := n3_
      have HB := n4_
      have HI235 := n5_
      clear n0_ n1_ n2_ n3_ n4_ n5_
      (try clear hb)
      (try clear hb2)
      (try clear hk)
      (try clear hi)
      refine hK.out _ _ trivial (fun hHeld => ?_)
      clear hK K
      refine norm_ (a' := ?_) ?_ ?_
      rotate_left
      · show Act.put _ (some 10) _ = _
        simp only [Act.put, List.setIfInBounds_toArray, List.set_cons_zero, List.set_cons_succ, i64_w, i32_w]
        rfl
      refine join_ (σ := Value × Addr) 1 #[true, true, true, true, true, true, true, true, true, true, false] (fun s_ => [(11, s_.1), (13, .int .i64 t253), (15, .int .i64 (rd y250 t253)), (14, .pointer (some (s_.2.add (t253).toNat)))]) (fun s_ w' => (Kd.R (Kd.int .i64) 3 w' w.heap.size (fun k_ => some k_ ≠ (.slice Aqv241 t240.length cqv241 : Value).ownBlock ∧ some k_ ≠ (s_.1 : Value).ownBlock) (.slice Aqv238 t237.length cqv238) t237) ∧ (Kd.R (Kd.int .i64) 3 w' w.heap.size (fun k_ => some k_ ≠ (.slice Aqv238 t237.length cqv238 : Value).ownBlock ∧ some k_ ≠ (s_.1 : Value).ownBlock) (.slice Aqv241 t240.length cqv241) t240) ∧ (Kd.R (Kd.int .u8) 5 w' w.heap.size (fun _ => True) (.slice Aqv245 t244.length cqv245) t244) ∧ (Kd.R (Kd.int .i64) 3 w' w.heap.size (fun k_ => some k_ ≠ (.slice Aqv238 t237.length cqv238 : Value).ownBlock ∧ some k_ ≠ (.slice Aqv241 t240.length cqv241 : Value).ownBlock) s_.1 y250) ∧ (∃ c_, (s_.1 : Value) = .slice (some s_.2) y250.length c_) ∧ (w'.heap[gb232]? = some (.cells #[.int .i64 t236, .slice Aqv238 t237.length cqv238, .slice Aqv241 t240.length cqv241, .int .i64 t243, .slice Aqv245 t244.length cqv245] 48 (0, 0))) ∧ (IsS103 w w' g235 t233 t254) ∧ (Below w.heap.size w w')) ?_ ?_
      rotate_left
      · intro hJ4_6_8_9
        refine join_ (σ := Value × Addr) 2 #[true, true, true, true, true, true, true, true, true, false, false] (fun s_ => [(11, s_.1), (13, .int .i64 t253), (15, .int .i64 (rd y250 t253)), (14, .pointer (some (s_.2.add (t253).toNat)))]) (fun s_ w' => (Kd.R (Kd.int .i64) 3 w' w.heap.size (fun k_ => some k_ ≠ (.slice Aqv241 t240.length cqv241 : Value).ownBlock ∧ some k_ ≠ (s_.1 : Value).ownBlock) (.slice Aqv238 t237.length cqv238) t237) ∧ (Kd.R (Kd.int .i64) 3 w' w.heap.size (fun k_ => some k_ ≠ (.slice Aqv238 t237.length cqv238 : Value).ownBlock ∧ some k_ ≠ (s_.1 : Value).ownBlock) (.slice Aqv241 t240.length cqv241) t240) ∧ (Kd.R (Kd.int .u8) 5 w' w.heap.size (fun _ => True) (.slice Aqv245 t244.length cqv245) t244) ∧ (Kd.R (Kd.int .i64) 3 w' w.heap.size (fun k_ => some k_ ≠ (.slice Aqv238 t237.length cqv238 : Value).ownBlock ∧ some k_ ≠ (.slice Aqv241 t240.length cqv241 : Value).ownBlock) s_.1 y250) ∧ (∃ c_, (s_.1 : Value) = .slice (some s_.2) y250.length c_) ∧ (w'.heap[gb232]? = some (.cells #[.int .i64 0, .slice none 0 0, .slice none 0 0, .int .i64 0, .slice none 0 0] 48 (0, 0))) ∧ (IsS103 w w' g235 t233 t254) ∧ (Below w.heap.size w w')) ?_ ?_
        rotate_left
        · intro hJ4_6_8
          refine join_ (σ := Value × Addr) 2 #[true, true, true, true, true, true, true, true, false, true, false] (fun s_ => [(11, s_.1), (13, .int .i64 t253), (14, .pointer (some (s_.2.add (t253).toNat)))]) (fun s_ w' => (Kd.R (Kd.int .i64) 3 w' w.heap.size (fun k_ => some k_ ≠ (.slice Aqv241 t240.length cqv241 : Value).ownBlock ∧ some k_ ≠ (s_.1 : Value).ownBlock) (.slice Aqv238 t237.length cqv238) t237) ∧ (Kd.R (Kd.int .i64) 3 w' w.heap.size (fun k_ => some k_ ≠ (.slice Aqv238 t237.length cqv238 : Value).ownBlock ∧ some k_ ≠ (s_.1 : Value).ownBlock) (.slice Aqv241 t240.length cqv241) t240) ∧ (Kd.R (Kd.int .u8) 5 w' w.heap.size (fun _ => True) (.slice Aqv245 t244.length cqv245) t244) ∧ (Kd.R (Kd.int .i64) 3 w' w.heap.size (fun k_ => some k_ ≠ (.slice Aqv238 t237.length cqv238 : Value).ownBlock ∧ some k_ ≠ (.slice Aqv241 t240.length cqv241 : Value).ownBlock) s_.1 y250) ∧ (∃ c_, (s_.1 : Value) = .slice (some s_.2) y250.length c_) ∧ (w'.heap[gb232]? = some (.cells #[.int .i64 t236, .slice Aqv238 t237.length cqv238, .slice Aqv241 t240.length cqv241, .int .i64 t243, .slice Aqv245 t244.length cqv245] 48 (0, 0))) ∧ (IsS103 w w' g235 t233 t254) ∧ (Below w.heap.size w w')) ?_ ?_
          rotate_left
          · intro hJ4_6_9
            refine join_ (σ := Value × Addr) 3 #[true, true, true, true, true, true, true, true, false, false, false] (fun s_ => [(11, s_.1), (13, .int .i64 t253), (14, .pointer (some (s_.2.add (t253).toNat)))]) (fun s_ w' => (Kd.R (Kd.int .i64) 3 w' w.heap.size (fun k_ => some k_ ≠ (.slice Aqv241 t240.length cqv241 : Value).ownBlock ∧ some k_ ≠ (s_.1 : Value).ownBlock) (.slice Aqv238 t237.length cqv238) t237) ∧ (Kd.R (Kd.int .i64) 3 w' w.heap.size (fun k_ => some k_ ≠ (.slice Aqv238 t237.length cqv238 : Value).ownBlock ∧ some k_ ≠ (s_.1 : Value).ownBlock) (.slice Aqv241 t240.length cqv241) t240) ∧ (Kd.R (Kd.int .u8) 5 w' w.heap.size (fun _ => True) (.slice Aqv245 t244.length cqv245) t244) ∧ (Kd.R (Kd.int .i64) 3 w' w.heap.size (fun k_ => some k_ ≠ (.slice Aqv238 t237.length cqv238 : Value).ownBlock ∧ some k_ ≠ (.slice Aqv241 t240.length cqv241 : Value).ownBlock) s_.1 y250) ∧ (∃ c_, (s_.1 : Value) = .slice (some s_.2) y250.length c_) ∧ (w'.heap[gb232]? = some (.cells #[.int .i64 0, .slice none 0 0, .slice none 0 0, .int .i64 0, .slice none 0 0] 48 (0, 0))) ∧ (IsS103 w w' g235 t233 t254) ∧ (Below w.heap.size w w')) ?_ ?_
            rotate_left
            · intro hJ4_6
              refine join_ (σ := Unit) 4 #[true, true, true, true, false, true, true, false, false, true, false] (fun s_ => [(13, .int .i64 t253)]) (fun s_ w' => (Kd.R (Kd.int .i64) 3 w' w.heap.size (fun k_ => some k_ ≠ (.slice Aqv241 t240.length cqv241 : Value).ownBlock) (.slice Aqv238 t237.length cqv238) t237) ∧ (Kd.R (Kd.int .i64) 3 w' w.heap.size (fun k_ => some k_ ≠ (.slice Aqv238 t237.length cqv238 : Value).ownBlock) (.slice Aqv241 t240.length cqv241) t240) ∧ (Kd.R (Kd.int .u8) 5 w' w.heap.size (fun _ => True) (.slice Aqv245 t244.length cqv245) t244) ∧ (w'.heap[gb232]? = some (.cells #[.int .i64 t236, .slice Aqv238 t237.length cqv238, .slice Aqv241 t240.length cqv241, .int .i64 t243, .slice Aqv245 t244.length cqv245] 48 (0, 0))) ∧ (IsS103 w w' g235 t233 t254) ∧ (Below w.heap.size w w')) ?_ ?_
              rotate_left
              · intro hJ6_9
                refine join_ (σ := Value × Addr) 5 #[true, true, true, true, true, true, false, false, false, false, false] (fun s_ => [(11, s_.1)]) (fun s_ w' => (Kd.R (Kd.int .i64) 3 w' w.heap.size (fun k_ => some k_ ≠ (.slice Aqv241 t240.length cqv241 : Value).ownBlock ∧ some k_ ≠ (s_.1 : Value).ownBlock) (.slice Aqv238 t237.length cqv238) t237) ∧ (Kd.R (Kd.int .i64) 3 w' w.heap.size (fun k_ => some k_ ≠ (.slice Aqv238 t237.length cqv238 : Value).ownBlock ∧ some k_ ≠ (s_.1 : Value).ownBlock) (.slice Aqv241 t240.length cqv241) t240) ∧ (Kd.R (Kd.int .u8) 5 w' w.heap.size (fun _ => True) (.slice Aqv245 t244.length cqv245) t244) ∧ (Kd.R (Kd.int .i64) 3 w' w.heap.size (fun k_ => some k_ ≠ (.slice Aqv238 t237.length cqv238 : Value).ownBlock ∧ some k_ ≠ (.slice Aqv241 t240.length cqv241 : Value).ownBlock) s_.1 y250) ∧ (∃ c_, (s_.1 : Value) = .slice (some s_.2) y250.length c_) ∧ (w'.heap[gb232]? = some (.cells #[.int .i64 0, .slice none 0 0, .slice none 0 0, .int .i64 0, .slice none 0 0] 48 (0, 0))) ∧ (IsS103 w w' g235 t233 t249) ∧ (Below w.heap.size w w')) ?_ ?_
                rotate_left
                · intro hJ4
                  refine join_ (σ := Unit) 5 #[true, true, true, true, false, true, true, false, false, false, false] (fun s_ => [(13, .int .i64 t253)]) (fun s_ w' => (Kd.R (Kd.int .i64) 3 w' w.heap.size (fun k_ => some k_ ≠ (.slice Aqv241 t240.length cqv241 : Value).ownBlock) (.slice Aqv238 t237.length cqv238) t237) ∧ (Kd.R (Kd.int .i64) 3 w' w.heap.size (fun k_ => some k_ ≠ (.slice Aqv238 t237.length cqv238 : Value).ownBlock) (.slice Aqv241 t240.length cqv241) t240) ∧ (Kd.R (Kd.int .u8) 5 w' w.heap.size (fun _ => True) (.slice Aqv245 t244.length cqv245) t244) ∧ (w'.heap[gb232]? = some (.cells #[.int .i64 0, .slice none 0 0, .slice none 0 0, .int .i64 0, .slice none 0 0] 48 (0, 0))) ∧ (IsS103 w w' g235 t233 t254) ∧ (Below w.heap.size w w')) ?_ ?_
                  rotate_left
                  · intro hJ6
                    refine two_ (i := 4) (j := 6) (Ni := some 11) (Nj := some 13) #[true, true, true, true, true, true, false, false, false, false, false] #[true, true, true, true, false, true, true, false, false, false, false] rfl rfl rfl rfl (two_of HT_.out (by kernel_rfl)) (by decide) (by decide) (fun K hK => ?_) (fun K hK => ?_)
                    · skip
                      refine Kd.R_lit_step (Kd.int .i64) _ 3 ?hg (N := 11) ?hd (xs := ([0, 255, t248, (-1), 256] : List Int)) (inner := [.int .i64 0, .int .i64 255, .int .i64 t248, .int .i64 (-1), .int .i64 256]) (ok := fun _ => True) (okp := fun _ => True) ?hr ?hp (fun _ hk => hk) trivial (Below.refl _ _) (Nat.le_refl _) (by simp) ?_; (case hd => rfl); (case hg => rfl); (case hr => first | (go_simp; done) | (go_simp; rfl)); (case hp => exact (Reps.one (show Kd.M (Kd.int .i64) _ _ _ 0 [.int .i64 0] from rfl) (Reps.one (show Kd.M (Kd.int .i64) _ _ _ 255 [.int .i64 255] from rfl) (Reps.one (show Kd.M (Kd.int .i64) _ _ _ t248 [.int .i64 t248] from rfl) (Reps.one (show Kd.M (Kd.int .i64) _ _ _ (-1) [.int .i64 (-1)] from rfl) (Reps.one (show Kd.M (Kd.int .i64) _ _ _ 256 [.int .i64 256] from rfl) (Reps.none _ _)))))))
                      intro v251 w13 ho14 hb hg_ hnew_
                      clear hg_ hnew_
                      (first | rw [← Ny250.out] at ho14 | (simp only [Int.reduceToNat] at ho14; rw [← Ny250.out] at ho14))
                      have n0_ := qM (Kd.R_elder' (by (with_reducible repeat (first | apply qA | apply qN | apply qD)); exact HO239.out) (Kd.R_base ho14) hb)
                      have n1_ := qM (Kd.R_elder' (by (with_reducible repeat (first | apply qA | apply qN | apply qD)); exact HO242.out) (Kd.R_base ho14) hb)
                      have n2_ := qM (Kd.R_below (by (with_reducible repeat (first | apply qA | apply qN | apply qD)); exact HO246.out) hb)
                      have n3_ := qM (Kd.R_lower (Kd.R_new' (Kd.R_new' ho14 (Kd.R_lt (by (with_reducible repeat (first | apply qA | apply qN | apply qD)); exact HO239.out))) (Kd.R_lt (by (with_reducible repeat (first | apply qA | apply qN | apply qD)); exact HO242.out))) (below_size (by repeat (first | (with_reducible first | exact HB.out | apply yA | apply yN | apply yD | refine yS ?_ (IsS103.ge HI235.out) | refine yS ?_ GE232.out) | exact HB.out))))
                      have n4_ := qM (blk_below (g := gb232) (o := .cells #[.int .i64 0, .slice none 0 0, .slice none 0 0, .int .i64 0, .slice none 0 0] 48 (0, 0)) (by (with_reducible repeat (first | refine zN ?_ _ | refine zD ?_ | refine zA ?_ _)); exact BK232.out) hb)
                      have n5_ := qM (IsS103.below (by repeat (first | (with_reducible first | exact HI235.out | apply IsS103.alloc | apply IsS103.drewN | apply IsS103.drew | apply IsS103.set_1 | refine IsS103.far ?_ NB235_232.out _) | exact HI235.out)) hb)
                      have n6_ := qM (below_step (by repeat (first | (with_reducible first | exact HB.out | apply yA | apply yN | apply yD | refine yS ?_ (IsS103.ge HI235.out) | refine yS ?_ GE232.out) | exact HB.out)) hb)
                      clear HO239
                      clear HO242
                      clear HO246
                      clear BK232
                      clear HI235
                      clear HB
                      have HO239 := n0_
                      have HO242 := n1_
                      have HO246 := n2_
                      have HO252 := n3_
                      have BK232 := n4_
                      have HI235 := n5_
                      have HB := n6_
                      clear n0_ n1_ n2_ n3_ n4_ n5_ n6_
                      clear hb ho14
                      obtain ⟨Ao15, co15, eo15⟩ := Kd.R_slice HO252.out
                      subst eo15
                      obtain ⟨ado15, fo15, _⟩ := Kd.at_int (qR HO252.out).2.2 0 (by decide) (by rw [Ny250.out]; simp)
                      cases fo15
                      refine hK.out _ _ trivial (fun hHeld => ?_)
                      clear hK K
                      refine norm_ (a' := ?_) ?_ ?_
                      rotate_left
                      · show Act.put _ (some 11) _ = _
                        simp only [Act.put, List.setIfInBounds_toArray, List.set_cons_zero, List.set_cons_succ, i64_w, i32_w]
                        rfl
                      exact norm_ (by first | (simp only [putAll, Act.put, List.setIfInBounds_toArray, List.set_cons_zero, List.set_cons_succ]; done) | (simp only [putAll, Act.put, List.setIfInBounds_toArray, List.set_cons_zero, List.set_cons_succ]; rfl)) (hJ4 (.slice (some ado15) y250.length co15, ado15) _ ⟨(by (with_reducible repeat (first | apply qA | apply qN | apply qD)); exact HO239.out), (by (with_reducible repeat (first | apply qA | apply qN | apply qD)); exact HO242.out), (by (with_reducible repeat (first | apply qA | apply qN | apply qD)); exact HO246.out), (by (with_reducible repeat (first | apply qA | apply qN | apply qD)); exact Kd.R_mono HO252.out (fun _ hk => ⟨hk.1.2, hk.2⟩)), ⟨_, rfl⟩, (by (with_reducible repeat (first | refine zN ?_ _ | refine zD ?_ | refine zA ?_ _)); exact BK232.out), (by repeat (first | (with_reducible first | exact HI235.out | apply IsS103.alloc | apply IsS103.drewN | apply IsS103.drew | apply IsS103.set_1 | refine IsS103.far ?_ NB235_232.out _) | exact HI235.out)), (by repeat (first | (with_reducible first | exact HB.out | apply yA | apply yN | apply yD | refine yS ?_ (IsS103.ge HI235.out) | refine yS ?_ GE232.out) | exact HB.out))⟩)
                    · skip
                      refine goes_ Try.func73 (by kernel_rfl) rfl #[.pointer (some ⟨g235, 0, none⟩), .int .i64 5] (by rfl) rfl rfl (by (try simp only [List.map_toArray, List.map_cons, List.map_nil]); first | done | rfl | (simp only [List.length_drop, List.length_take]; rfl)) ?_
                      with_reducible refine (spec_l30Rd_pick.calls k g235 t233 t249 5 t253 t254 w _ ?side1 ?side2 A5.out).mono ?_
                      (case side1 => repeat (first | (with_reducible first | exact HI235.out | apply IsS103.alloc | apply IsS103.drewN | apply IsS103.drew | apply IsS103.set_1 | refine IsS103.far ?_ NB235_232.out _) | exact HI235.out))
                      (case side2 => repeat (first | (with_reducible first | exact HB.out | apply yA | apply yN | apply yD | refine yS ?_ (IsS103.ge HI235.out) | refine yS ?_ GE232.out) | exact HB.out))
                      rintro e w13 ⟨rfl, hi, hb, hk⟩
                      refine ⟨_, rfl, ?_⟩
                      have n0_ := qM (KeepBut.blk hk (g' := gb232) (o := .cells #[.int .i64 0, .slice none 0 0, .slice none 0 0, .int .i64 0, .slice none 0 0] 48 (0, 0)) (by (with_reducible repeat (first | refine zN ?_ _ | refine zD ?_ | refine zA ?_ _)); exact BK232.out) NB232_235.out (by simp))
                      have n1_ := qM (Kd.R_mono (Kd.R_keep (IsS103.apart (show IsS103 w _ g235 t233 t249 from by repeat (first | (with_reducible first | exact HI235.out | apply IsS103.alloc | apply IsS103.drewN | apply IsS103.drew | apply IsS103.set_1 | refine IsS103.far ?_ NB235_232.out _) | exact HI235.out)) (by (with_reducible repeat (first | apply qA | apply qN | apply qD)); exact HO239.out) (by decide)) hk (fun _ h => h.2)) (fun _ h => h.1))
                      have n2_ := qM (Kd.R_mono (Kd.R_keep (IsS103.apart (show IsS103 w _ g235 t233 t249 from by repeat (first | (with_reducible first | exact HI235.out | apply IsS103.alloc | apply IsS103.drewN | apply IsS103.drew | apply IsS103.set_1 | refine IsS103.far ?_ NB235_232.out _) | exact HI235.out)) (by (with_reducible repeat (first | apply qA | apply qN | apply qD)); exact HO242.out) (by decide)) hk (fun _ h => h.2)) (fun _ h => h.1))
                      have n3_ := qM (Kd.R_mono (Kd.R_keep (IsS103.apart (show IsS103 w _ g235 t233 t249 from by repeat (first | (with_reducible first | exact HI235.out | apply IsS103.alloc | apply IsS103.drewN | apply IsS103.drew | apply IsS103.set_1 | refine IsS103.far ?_ NB235_232.out _) | exact HI235.out)) (by (with_reducible repeat (first | apply qA | apply qN | apply qD)); exact HO246.out) (by decide)) hk (fun _ h => h.2)) (fun _ h => h.1))
                      have n4_ := qM (hb)
                      have n5_ := qM (hi)
                      clear BK232
                      clear HO239
                      clear HO242
                      clear HO246
                      clear HB
                      clear HI235
                      have BK232 := n0_
                      have HO239 := n1_
                      have HO242 := n2_
                      have HO246 := n3_
                      have HB := n4_
                      have HI235 := n5_
                      clear n0_ n1_ n2_ n3_ n4_ n5_
                      (try clear hb)
                      (try clear hb2)
                      (try clear hk)
                      (try clear hi)
                      refine hK.out _ _ trivial (fun hHeld => ?_)
                      clear hK K
                      refine norm_ (a' := ?_) ?_ ?_
                      rotate_left
                      · show Act.put _ (some 13) _ = _
                        simp only [Act.put, List.setIfInBounds_toArray, List.set_cons_zero, List.set_cons_succ, i64_w, i32_w]
                        rfl
                      exact norm_ (by first | (simp only [putAll, Act.put, List.setIfInBounds_toArray, List.set_cons_zero, List.set_cons_succ]; done) | (simp only [putAll, Act.put, List.setIfInBounds_toArray, List.set_cons_zero, List.set_cons_succ]; rfl)) (hJ6 () _ ⟨(by (with_reducible repeat (first | apply qA | apply qN | apply qD)); exact HO239.out), (by (with_reducible repeat (first | apply qA | apply qN | apply qD)); exact HO242.out), (by (with_reducible repeat (first | apply qA | apply qN | apply qD)); exact HO246.out), (by (with_reducible repeat (first | refine zN ?_ _ | refine zD ?_ | refine zA ?_ _)); exact BK232.out), (by repeat (first | (with_reducible first | exact HI235.out | apply IsS103.alloc | apply IsS103.drewN | apply IsS103.drew | apply IsS103.set_1 | refine IsS103.far ?_ NB235_232.out _) | exact HI235.out)), (by repeat (first | (with_reducible first | exact HB.out | apply yA | apply yN | apply yD | refine yS ?_ (IsS103.ge HI235.out) | refine yS ?_ GE232.out) | exact HB.out))⟩)
                  · skip
                    rintro _ w14 ⟨h0_, h1_, h2_, h3_, h4_, h5_⟩
                    have n0_ : Aside0 (Kd.R (Kd.int .i64) 3 w14 w.heap.size (fun k_ => some k_ ≠ (.slice Aqv241 t240.length cqv241 : Value).ownBlock) (.slice Aqv238 t237.length cqv238) t237) := ⟨h0_⟩
                    have n1_ : Aside0 (Kd.R (Kd.int .i64) 3 w14 w.heap.size (fun k_ => some k_ ≠ (.slice Aqv238 t237.length cqv238 : Value).ownBlock) (.slice Aqv241 t240.length cqv241) t240) := ⟨h1_⟩
                    have n2_ : Aside0 (Kd.R (Kd.int .u8) 5 w14 w.heap.size (fun _ => True) (.slice Aqv245 t244.length cqv245) t244) := ⟨h2_⟩
                    have n3_ : Aside0 (w14.heap[gb232]? = some (.cells #[.int .i64 0, .slice none 0 0, .slice none 0 0, .int .i64 0, .slice none 0 0] 48 (0, 0))) := ⟨h3_⟩
                    have n4_ : Aside0 (IsS103 w w14 g235 t233 t254) := ⟨h4_⟩
                    have n5_ : Aside0 (Below w.heap.size w w14) := ⟨h5_⟩
                    clear BK232
                    clear HI235
                    clear HB
                    clear h0_ h1_ h2_ h3_ h4_ h5_
                    have HO239 := n0_
                    have HO242 := n1_
                    have HO246 := n2_
                    have BK232 := n3_
                    have HI235 := n4_
                    have HB := n5_
                    clear n0_ n1_ n2_ n3_ n4_ n5_
                    have hHeld := trivial
                    refine norm_ (a' := ?_) ?_ ?_
                    rotate_left
                    · simp only [putAll, Act.put, List.setIfInBounds_toArray, List.set_cons_zero, List.set_cons_succ]
                      rfl
                    refine two_ (i := 4) (j := 9) (Ni := some 11) (Nj := none) #[true, true, true, true, true, true, true, false, false, false, false] #[true, true, true, true, false, true, true, false, false, true, false] rfl rfl rfl rfl (two_of HT_.out (by kernel_rfl)) (by decide) (by decide) (fun K hK => ?_) (fun K hK => ?_)
                    · skip
                      refine Kd.R_lit_step (Kd.int .i64) _ 3 ?hg (N := 11) ?hd (xs := ([0, 255, t248, (-1), 256] : List Int)) (inner := [.int .i64 0, .int .i64 255, .int .i64 t248, .int .i64 (-1), .int .i64 256]) (ok := fun _ => True) (okp := fun _ => True) ?hr ?hp (fun _ hk => hk) trivial (Below.refl _ _) (Nat.le_refl _) (by simp) ?_; (case hd => rfl); (case hg => rfl); (case hr => first | (go_simp; done) | (go_simp; rfl)); (case hp => exact (Reps.one (show Kd.M (Kd.int .i64) _ _ _ 0 [.int .i64 0] from rfl) (Reps.one (show Kd.M (Kd.int .i64) _ _ _ 255 [.int .i64 255] from rfl) (Reps.one (show Kd.M (Kd.int .i64) _ _ _ t248 [.int .i64 t248] from rfl) (Reps.one (show Kd.M (Kd.int .i64) _ _ _ (-1) [.int .i64 (-1)] from rfl) (Reps.one (show Kd.M (Kd.int .i64) _ _ _ 256 [.int .i64 256] from rfl) (Reps.none _ _)))))))
                      intro v251 w15 ho16 hb hg_ hnew_
                      clear hg_ hnew_
                      (first | rw [← Ny250.out] at ho16 | (simp only [Int.reduceToNat] at ho16; rw [← Ny250.out] at ho16))
                      have n0_ := qM (Kd.R_elder' (by (with_reducible repeat (first | apply qA | apply qN | apply qD)); exact HO239.out) (Kd.R_base ho16) hb)
                      have n1_ := qM (Kd.R_elder' (by (with_reducible repeat (first | apply qA | apply qN | apply qD)); exact HO242.out) (Kd.R_base ho16) hb)
                      have n2_ := qM (Kd.R_below (by (with_reducible repeat (first | apply qA | apply qN | apply qD)); exact HO246.out) hb)
                      have n3_ := qM (Kd.R_lower (Kd.R_new' (Kd.R_new' ho16 (Kd.R_lt (by (with_reducible repeat (first | apply qA | apply qN | apply qD)); exact HO239.out))) (Kd.R_lt (by (with_reducible repeat (first | apply qA | apply qN | apply qD)); exact HO242.out))) (below_size (by repeat (first | (with_reducible first | exact HB.out | apply yA | apply yN | apply yD | refine yS ?_ (IsS103.ge HI235.out) | refine yS ?_ GE232.out) | exact HB.out))))
                      have n4_ := qM (blk_below (g := gb232) (o := .cells #[.int .i64 0, .slice none 0 0, .slice none 0 0, .int .i64 0, .slice none 0 0] 48 (0, 0)) (by (with_reducible repeat (first | refine zN ?_ _ | refine zD ?_ | refine zA ?_ _)); exact BK232.out) hb)
                      have n5_ := qM (IsS103.below (by repeat (first | (with_reducible first | exact HI235.out | apply IsS103.alloc | apply IsS103.drewN | apply IsS103.drew | apply IsS103.set_1 | refine IsS103.far ?_ NB235_232.out _) | exact HI235.out)) hb)
                      have n6_ := qM (below_step (by repeat (first | (with_reducible first | exact HB.out | apply yA | apply yN | apply yD | refine yS ?_ (IsS103.ge HI235.out) | refine yS ?_ GE232.out) | exact HB.out)) hb)
                      clear HO239
                      clear HO242
                      clear HO246
                      clear BK232
                      clear HI235
                      clear HB
                      have HO239 := n0_
                      have HO242 := n1_
                      have HO246 := n2_
                      have HO252 := n3_
                      have BK232 := n4_
                      have HI235 := n5_
                      have HB := n6_
                      clear n0_ n1_ n2_ n3_ n4_ n5_ n6_
                      clear hb ho16
                      obtain ⟨Ao17, co17, eo17⟩ := Kd.R_slice HO252.out
                      subst eo17
                      obtain ⟨ado17, fo17, _⟩ := Kd.at_int (qR HO252.out).2.2 0 (by decide) (by rw [Ny250.out]; simp)
                      cases fo17
                      refine hK.out _ _ trivial (fun hHeld => ?_)
                      clear hK K
                      refine norm_ (a' := ?_) ?_ ?_
                      rotate_left
                      · show Act.put _ (some 11) _ = _
                        simp only [Act.put, List.setIfInBounds_toArray, List.set_cons_zero, List.set_cons_succ, i64_w, i32_w]
                        rfl
                      refine pure_ (i := 7) (N := some 14) (v := ?_) (a' := ?_) #[true, true, true, true, true, true, true, true, false, false, false] rfl rfl (any_of HT_.out (by kernel_rfl)) (fun _ _ _ h => h) (Or.inl ⟨by rfl, ?_⟩) ?_ ?_
                      rotate_left
                      · intro w'
                        go_simp
                        with_reducible rfl
                      rotate_left
                      · simp only [Act.put, List.setIfInBounds_toArray, List.set_cons_zero, List.set_cons_succ, i64_w, i32_w]
                        rfl
                      exact norm_ (by first | (simp only [putAll, Act.put, List.setIfInBounds_toArray, List.set_cons_zero, List.set_cons_succ]; done) | (simp only [putAll, Act.put, List.setIfInBounds_toArray, List.set_cons_zero, List.set_cons_succ]; rfl)) (hJ4_6 (.slice (some ado17) y250.length co17, ado17) _ ⟨(by (with_reducible repeat (first | apply qA | apply qN | apply qD)); exact HO239.out), (by (with_reducible repeat (first | apply qA | apply qN | apply qD)); exact HO242.out), (by (with_reducible repeat (first | apply qA | apply qN | apply qD)); exact HO246.out), (by (with_reducible repeat (first | apply qA | apply qN | apply qD)); exact Kd.R_mono HO252.out (fun _ hk => ⟨hk.1.2, hk.2⟩)), ⟨_, rfl⟩, (by (with_reducible repeat (first | refine zN ?_ _ | refine zD ?_ | refine zA ?_ _)); exact BK232.out), (by repeat (first | (with_reducible first | exact HI235.out | apply IsS103.alloc | apply IsS103.drewN | apply IsS103.drew | apply IsS103.set_1 | refine IsS103.far ?_ NB235_232.out _) | exact HI235.out)), (by repeat (first | (with_reducible first | exact HB.out | apply yA | apply yN | apply yD | refine yS ?_ (IsS103.ge HI235.out) | refine yS ?_ GE232.out) | exact HB.out))⟩)
                    · skip
                      have hs15 : w14.cell? ⟨gb232, 0, none⟩ = some (.int .i64 0) := (zC BK232.out 0).trans rfl
                      have hfs15 := zF BK232.out 0
                      have hs17 : w14.cell? ⟨gb232, 1, none⟩ = some (.slice none 0 0) := (zC BK232.out 1).trans rfl
                      have hfs17 := zF BK232.out 1
                      have hs19 : w14.cell? ⟨gb232, 2, none⟩ = some (.slice none 0 0) := (zC BK232.out 2).trans rfl
                      have hfs19 := zF BK232.out 2
                      have hs20 : w14.cell? ⟨gb232, 3, none⟩ = some (.int .i64 0) := (zC BK232.out 3).trans rfl
                      have hfs20 := zF BK232.out 3
                      have hs22 : w14.cell? ⟨gb232, 4, none⟩ = some (.slice none 0 0) := (zC BK232.out 4).trans rfl
                      have hfs22 := zF BK232.out 4
                      refine skip_ (w1 := ?_) (by rfl) rfl ?_ ?_
                      rotate_left
                      · go_simp
                        rfl
                      refine hK.out _ _ trivial (fun hHeld => ?_)
                      clear hK K
                      exact norm_ (by first | (simp only [putAll, Act.put, List.setIfInBounds_toArray, List.set_cons_zero, List.set_cons_succ]; done) | (simp only [putAll, Act.put, List.setIfInBounds_toArray, List.set_cons_zero, List.set_cons_succ]; rfl)) (hJ6_9 () _ ⟨(by (with_reducible repeat (first | apply qA | apply qN | apply qD)); exact Kd.R_mono (qF (p := ⟨gb232, 4, none⟩) (qF (p := ⟨gb232, 3, none⟩) (qF (p := ⟨gb232, 2, none⟩) (qF (p := ⟨gb232, 1, none⟩) (qF (p := ⟨gb232, 0, none⟩) (Kd.R_types HO239.out BK232.out (by decide)) (fun _ hk => hk.2) (.int .i64 t236)) (fun _ hk => hk.2) (.slice Aqv238 t237.length cqv238)) (fun _ hk => hk.2) (.slice Aqv241 t240.length cqv241)) (fun _ hk => hk.2) (.int .i64 t243)) (fun _ hk => hk.2) (.slice Aqv245 t244.length cqv245)) (fun _ hk => hk.1)), (by (with_reducible repeat (first | apply qA | apply qN | apply qD)); exact Kd.R_mono (qF (p := ⟨gb232, 4, none⟩) (qF (p := ⟨gb232, 3, none⟩) (qF (p := ⟨gb232, 2, none⟩) (qF (p := ⟨gb232, 1, none⟩) (qF (p := ⟨gb232, 0, none⟩) (Kd.R_types HO242.out BK232.out (by decide)) (fun _ hk => hk.2) (.int .i64 t236)) (fun _ hk => hk.2) (.slice Aqv238 t237.length cqv238)) (fun _ hk => hk.2) (.slice Aqv241 t240.length cqv241)) (fun _ hk => hk.2) (.int .i64 t243)) (fun _ hk => hk.2) (.slice Aqv245 t244.length cqv245)) (fun _ hk => hk.1)), (by (with_reducible repeat (first | apply qA | apply qN | apply qD)); exact Kd.R_mono (qF (p := ⟨gb232, 4, none⟩) (qF (p := ⟨gb232, 3, none⟩) (qF (p := ⟨gb232, 2, none⟩) (qF (p := ⟨gb232, 1, none⟩) (qF (p := ⟨gb232, 0, none⟩) (Kd.R_types HO246.out BK232.out (by decide)) (fun _ hk => hk.2) (.int .i64 t236)) (fun _ hk => hk.2) (.slice Aqv238 t237.length cqv238)) (fun _ hk => hk.2) (.slice Aqv241 t240.length cqv241)) (fun _ hk => hk.2) (.int .i64 t243)) (fun _ hk => hk.2) (.slice Aqv245 t244.length cqv245)) (fun _ hk => trivial)), (by (with_reducible repeat (first | refine zN ?_ _ | refine zD ?_ | refine zA ?_ _)); refine blk_put (cs := #[.int .i64 t236, .slice Aqv238 t237.length cqv238, .slice Aqv241 t240.length cqv241, .int .i64 t243, .slice none 0 0]) ?_ 4 _ rfl; (with_reducible repeat (first | refine zN ?_ _ | refine zD ?_ | refine zA ?_ _)); refine blk_put (cs := #[.int .i64 t236, .slice Aqv238 t237.length cqv238, .slice Aqv241 t240.length cqv241, .int .i64 0, .slice none 0 0]) ?_ 3 _ rfl; (with_reducible repeat (first | refine zN ?_ _ | refine zD ?_ | refine zA ?_ _)); refine blk_put (cs := #[.int .i64 t236, .slice Aqv238 t237.length cqv238, .slice none 0 0, .int .i64 0, .slice none 0 0]) ?_ 2 _ rfl; (with_reducible repeat (first | refine zN ?_ _ | refine zD ?_ | refine zA ?_ _)); refine blk_put (cs := #[.int .i64 t236, .slice none 0 0, .slice none 0 0, .int .i64 0, .slice none 0 0]) ?_ 1 _ rfl; (with_reducible repeat (first | refine zN ?_ _ | refine zD ?_ | refine zA ?_ _)); refine blk_put (cs := #[.int .i64 0, .slice none 0 0, .slice none 0 0, .int .i64 0, .slice none 0 0]) ?_ 0 _ rfl; (with_reducible repeat (first | refine zN ?_ _ | refine zD ?_ | refine zA ?_ _)); exact BK232.out), (by repeat (first | (with_reducible first | exact HI235.out | apply IsS103.alloc | apply IsS103.drewN | apply IsS103.drew | apply IsS103.set_1 | refine IsS103.far ?_ NB235_232.out _) | exact HI235.out)), (by repeat (first | (with_reducible first | exact HB.out | apply yA | apply yN | apply yD | refine yS ?_ (IsS103.ge HI235.out) | refine yS ?_ GE232.out) | exact HB.out))⟩)
                · skip
                  rintro ⟨v251, adz_v251⟩ w16 ⟨h0_, h1_, h2_, h3_, h4_, h5_, h6_, h7_⟩
                  have n0_ : Aside0 (Kd.R (Kd.int .i64) 3 w16 w.heap.size (fun k_ => some k_ ≠ (.slice Aqv241 t240.length cqv241 : Value).ownBlock ∧ some k_ ≠ (v251 : Value).ownBlock) (.slice Aqv238 t237.length cqv238) t237) := ⟨h0_⟩
                  have n1_ : Aside0 (Kd.R (Kd.int .i64) 3 w16 w.heap.size (fun k_ => some k_ ≠ (.slice Aqv238 t237.length cqv238 : Value).ownBlock ∧ some k_ ≠ (v251 : Value).ownBlock) (.slice Aqv241 t240.length cqv241) t240) := ⟨h1_⟩
                  have n2_ : Aside0 (Kd.R (Kd.int .u8) 5 w16 w.heap.size (fun _ => True) (.slice Aqv245 t244.length cqv245) t244) := ⟨h2_⟩
                  have n3_ : Aside0 (Kd.R (Kd.int .i64) 3 w16 w.heap.size (fun k_ => some k_ ≠ (.slice Aqv238 t237.length cqv238 : Value).ownBlock ∧ some k_ ≠ (.slice Aqv241 t240.length cqv241 : Value).ownBlock) v251 y250) := ⟨h3_⟩
                  have n4_ : Aside0 (∃ c_, (v251 : Value) = .slice (some adz_v251) y250.length c_) := ⟨h4_⟩
                  have n5_ : Aside0 (w16.heap[gb232]? = some (.cells #[.int .i64 0, .slice none 0 0, .slice none 0 0, .int .i64 0, .slice none 0 0] 48 (0, 0))) := ⟨h5_⟩
                  have n6_ : Aside0 (IsS103 w w16 g235 t233 t249) := ⟨h6_⟩
                  have n7_ : Aside0 (Below w.heap.size w w16) := ⟨h7_⟩
                  clear BK232
                  clear HI235
                  clear HB
                  clear h0_ h1_ h2_ h3_ h4_ h5_ h6_ h7_
                  have HO239 := n0_
                  have HO242 := n1_
                  have HO246 := n2_
                  have HO252 := n3_
                  have HA_HO252 := n4_
                  have BK232 := n5_
                  have HI235 := n6_
                  have HB := n7_
                  clear n0_ n1_ n2_ n3_ n4_ n5_ n6_ n7_
                  have hHeld := trivial
                  obtain ⟨co17, eo17⟩ := HA_HO252.out
                  clear HA_HO252
                  subst eo17
                  refine norm_ (a' := ?_) ?_ ?_
                  rotate_left
                  · simp only [putAll, Act.put, List.setIfInBounds_toArray, List.set_cons_zero, List.set_cons_succ]
                    rfl
                  refine one_ (i := 6) (N := some 13) #[true, true, true, true, true, true, true, false, false, false, false] rfl rfl (one_of HT_.out (by kernel_rfl)) (by decide) (fun K hK => ?_)
                  refine goes_ Try.func73 (by kernel_rfl) rfl #[.pointer (some ⟨g235, 0, none⟩), .int .i64 5] (by rfl) rfl rfl (by (try simp only [List.map_toArray, List.map_cons, List.map_nil]); first | done | rfl | (simp only [List.length_drop, List.length_take]; rfl)) ?_
                  with_reducible refine (spec_l30Rd_pick.calls k g235 t233 t249 5 t253 t254 w _ ?side1 ?side2 A5.out).mono ?_
                  (case side1 => repeat (first | (with_reducible first | exact HI235.out | apply IsS103.alloc | apply IsS103.drewN | apply IsS103.drew | apply IsS103.set_1 | refine IsS103.far ?_ NB235_232.out _) | exact HI235.out))
                  (case side2 => repeat (first | (with_reducible first | exact HB.out | apply yA | apply yN | apply yD | refine yS ?_ (IsS103.ge HI235.out) | refine yS ?_ GE232.out) | exact HB.out))
                  rintro e w18 ⟨rfl, hi, hb, hk⟩
                  refine ⟨_, rfl, ?_⟩
                  have n0_ := qM (KeepBut.blk hk (g' := gb232) (o := .cells #[.int .i64 0, .slice none 0 0, .slice none 0 0, .int .i64 0, .slice none 0 0] 48 (0, 0)) (by (with_reducible repeat (first | refine zN ?_ _ | refine zD ?_ | refine zA ?_ _)); exact BK232.out) NB232_235.out (by simp))
                  have n1_ := qM (Kd.R_mono (Kd.R_keep (IsS103.apart (show IsS103 w _ g235 t233 t249 from by repeat (first | (with_reducible first | exact HI235.out | apply IsS103.alloc | apply IsS103.drewN | apply IsS103.drew | apply IsS103.set_1 | refine IsS103.far ?_ NB235_232.out _) | exact HI235.out)) (by (with_reducible repeat (first | apply qA | apply qN | apply qD)); exact HO239.out) (by decide)) hk (fun _ h => h.2)) (fun _ h => h.1))
                  have n2_ := qM (Kd.R_mono (Kd.R_keep (IsS103.apart (show IsS103 w _ g235 t233 t249 from by repeat (first | (with_reducible first | exact HI235.out | apply IsS103.alloc | apply IsS103.drewN | apply IsS103.drew | apply IsS103.set_1 | refine IsS103.far ?_ NB235_232.out _) | exact HI235.out)) (by (with_reducible repeat (first | apply qA | apply qN | apply qD)); exact HO242.out) (by decide)) hk (fun _ h => h.2)) (fun _ h => h.1))
                  have n3_ := qM (Kd.R_mono (Kd.R_keep (IsS103.apart (show IsS103 w _ g235 t233 t249 from by repeat (first | (with_reducible first | exact HI235.out | apply IsS103.alloc | apply IsS103.drewN | apply IsS103.drew | apply IsS103.set_1 | refine IsS103.far ?_ NB235_232.out _) | exact HI235.out)) (by (with_reducible repeat (first | apply qA | apply qN | apply qD)); exact HO246.out) (by decide)) hk (fun _ h => h.2)) (fun _ h => h.1))
                  have n4_ := qM (Kd.R_mono (Kd.R_keep (IsS103.apart (show IsS103 w _ g235 t233 t249 from by repeat (first | (with_reducible first | exact HI235.out | apply IsS103.alloc | apply IsS103.drewN | apply IsS103.drew | apply IsS103.set_1 | refine IsS103.far ?_ NB235_232.out _) | exact HI235.out)) (by (with_reducible repeat (first | apply qA | apply qN | apply qD)); exact HO252.out) (by decide)) hk (fun _ h => h.2)) (fun _ h => h.1))
                  have n5_ := qM (hb)
                  have n6_ := qM (hi)
                  clear BK232
                  clear HO239
                  clear HO242
                  clear HO246
                  clear HO252
                  clear HB
                  clear HI235
                  have BK232 := n0_
                  have HO239 := n1_
                  have HO242 := n2_
                  have HO246 := n3_
                  have HO252 := n4_
                  have HB := n5_
                  have HI235 := n6_
                  clear n0_ n1_ n2_ n3_ n4_ n5_ n6_
                  (try clear hb)
                  (try clear hb2)
                  (try clear hk)
                  (try clear hi)
                  refine hK.out _ _ trivial (fun hHeld => ?_)
                  clear hK K
                  refine norm_ (a' := ?_) ?_ ?_
                  rotate_left
                  · show Act.put _ (some 13) _ = _
                    simp only [Act.put, List.setIfInBounds_toArray, List.set_cons_zero, List.set_cons_succ, i64_w, i32_w]
                    rfl
                  refine pure_ (i := 7) (N := some 14) (v := ?_) (a' := ?_) #[true, true, true, true, true, true, true, true, false, false, false] rfl rfl (any_of HT_.out (by kernel_rfl)) (fun _ _ _ h => h) (Or.inl ⟨by rfl, ?_⟩) ?_ ?_
                  rotate_left
                  · intro w'
                    go_simp
                    with_reducible rfl
                  rotate_left
                  · simp only [Act.put, List.setIfInBounds_toArray, List.set_cons_zero, List.set_cons_succ, i64_w, i32_w]
                    rfl
                  exact norm_ (by first | (simp only [putAll, Act.put, List.setIfInBounds_toArray, List.set_cons_zero, List.set_cons_succ]; done) | (simp only [putAll, Act.put, List.setIfInBounds_toArray, List.set_cons_zero, List.set_cons_succ]; rfl)) (hJ4_6 (.slice (some adz_v251) y250.length co17, adz_v251) _ ⟨(by (with_reducible repeat (first | apply qA | apply qN | apply qD)); exact HO239.out), (by (with_reducible repeat (first | apply qA | apply qN | apply qD)); exact HO242.out), (by (with_reducible repeat (first | apply qA | apply qN | apply qD)); exact HO246.out), (by (with_reducible repeat (first | apply qA | apply qN | apply qD)); exact HO252.out), ⟨_, rfl⟩, (by (with_reducible repeat (first | refine zN ?_ _ | refine zD ?_ | refine zA ?_ _)); exact BK232.out), (by repeat (first | (with_reducible first | exact HI235.out | apply IsS103.alloc | apply IsS103.drewN | apply IsS103.drew | apply IsS103.set_1 | refine IsS103.far ?_ NB235_232.out _) | exact HI235.out)), (by repeat (first | (with_reducible first | exact HB.out | apply yA | apply yN | apply yD | refine yS ?_ (IsS103.ge HI235.out) | refine yS ?_ GE232.out) | exact HB.out))⟩)
              · skip
                rintro _ w22 ⟨h0_, h1_, h2_, h3_, h4_, h5_⟩
                have n0_ : Aside0 (Kd.R (Kd.int .i64) 3 w22 w.heap.size (fun k_ => some k_ ≠ (.slice Aqv241 t240.length cqv241 : Value).ownBlock) (.slice Aqv238 t237.length cqv238) t237) := ⟨h0_⟩
                have n1_ : Aside0 (Kd.R (Kd.int .i64) 3 w22 w.heap.size (fun k_ => some k_ ≠ (.slice Aqv238 t237.length cqv238 : Value).ownBlock) (.slice Aqv241 t240.length cqv241) t240) := ⟨h1_⟩
                have n2_ : Aside0 (Kd.R (Kd.int .u8) 5 w22 w.heap.size (fun _ => True) (.slice Aqv245 t244.length cqv245) t244) := ⟨h2_⟩
                have n3_ : Aside0 (w22.heap[gb232]? = some (.cells #[.int .i64 t236, .slice Aqv238 t237.length cqv238, .slice Aqv241 t240.length cqv241, .int .i64 t243, .slice Aqv245 t244.length cqv245] 48 (0, 0))) := ⟨h3_⟩
                have n4_ : Aside0 (IsS103 w w22 g235 t233 t254) := ⟨h4_⟩
                have n5_ : Aside0 (Below w.heap.size w w22) := ⟨h5_⟩
                clear BK232
                clear HI235
                clear HB
                clear h0_ h1_ h2_ h3_ h4_ h5_
                have HO239 := n0_
                have HO242 := n1_
                have HO246 := n2_
                have BK232 := n3_
                have HI235 := n4_
                have HB := n5_
                clear n0_ n1_ n2_ n3_ n4_ n5_
                have hHeld := trivial
                refine norm_ (a' := ?_) ?_ ?_
                rotate_left
                · simp only [putAll, Act.put, List.setIfInBounds_toArray, List.set_cons_zero, List.set_cons_succ]
                  rfl
                refine one_ (i := 4) (N := some 11) #[true, true, true, true, true, true, true, false, false, true, false] rfl rfl (one_of HT_.out (by kernel_rfl)) (by decide) (fun K hK => ?_)
                refine Kd.R_lit_step (Kd.int .i64) _ 3 ?hg (N := 11) ?hd (xs := ([0, 255, t248, (-1), 256] : List Int)) (inner := [.int .i64 0, .int .i64 255, .int .i64 t248, .int .i64 (-1), .int .i64 256]) (ok := fun _ => True) (okp := fun _ => True) ?hr ?hp (fun _ hk => hk) trivial (Below.refl _ _) (Nat.le_refl _) (by simp) ?_; (case hd => rfl); (case hg => rfl); (case hr => first | (go_simp; done) | (go_simp; rfl)); (case hp => exact (Reps.one (show Kd.M (Kd.int .i64) _ _ _ 0 [.int .i64 0] from rfl) (Reps.one (show Kd.M (Kd.int .i64) _ _ _ 255 [.int .i64 255] from rfl) (Reps.one (show Kd.M (Kd.int .i64) _ _ _ t248 [.int .i64 t248] from rfl) (Reps.one (show Kd.M (Kd.int .i64) _ _ _ (-1) [.int .i64 (-1)] from rfl) (Reps.one (show Kd.M (Kd.int .i64) _ _ _ 256 [.int .i64 256] from rfl) (Reps.none _ _)))))))
                intro v251 w23 ho24 hb hg_ hnew_
                clear hg_ hnew_
                (first | rw [← Ny250.out] at ho24 | (simp only [Int.reduceToNat] at ho24; rw [← Ny250.out] at ho24))
                have n0_ := qM (Kd.R_elder' (by (with_reducible repeat (first | apply qA | apply qN | apply qD)); exact HO239.out) (Kd.R_base ho24) hb)
                have n1_ := qM (Kd.R_elder' (by (with_reducible repeat (first | apply qA | apply qN | apply qD)); exact HO242.out) (Kd.R_base ho24) hb)
                have n2_ := qM (Kd.R_below (by (with_reducible repeat (first | apply qA | apply qN | apply qD)); exact HO246.out) hb)
                have n3_ := qM (Kd.R_lower (Kd.R_new' (Kd.R_new' ho24 (Kd.R_lt (by (with_reducible repeat (first | apply qA | apply qN | apply qD)); exact HO239.out))) (Kd.R_lt (by (with_reducible repeat (first | apply qA | apply qN | apply qD)); exact HO242.out))) (below_size (by repeat (first | (with_reducible first | exact HB.out | apply yA | apply yN | apply yD | refine yS ?_ (IsS103.ge HI235.out) | refine yS ?_ GE232.out) | exact HB.out))))
                have n4_ := qM (blk_below (g := gb232) (o := .cells #[.int .i64 t236, .slice Aqv238 t237.length cqv238, .slice Aqv241 t240.length cqv241, .int .i64 t243, .slice Aqv245 t244.length cqv245] 48 (0, 0)) (by (with_reducible repeat (first | refine zN ?_ _ | refine zD ?_ | refine zA ?_ _)); exact BK232.out) hb)
                have n5_ := qM (IsS103.below (by repeat (first | (with_reducible first | exact HI235.out | apply IsS103.alloc | apply IsS103.drewN | apply IsS103.drew | apply IsS103.set_1 | refine IsS103.far ?_ NB235_232.out _) | exact HI235.out)) hb)
                have n6_ := qM (below_step (by repeat (first | (with_reducible first | exact HB.out | apply yA | apply yN | apply yD | refine yS ?_ (IsS103.ge HI235.out) | refine yS ?_ GE232.out) | exact HB.out)) hb)
                clear HO239
                clear HO242
                clear HO246
                clear BK232
                clear HI235
                clear HB
                have HO239 := n0_
                have HO242 := n1_
                have HO246 := n2_
                have HO252 := n3_
                have BK232 := n4_
                have HI235 := n5_
                have HB := n6_
                clear n0_ n1_ n2_ n3_ n4_ n5_ n6_
                clear hb ho24
                obtain ⟨Ao25, co25, eo25⟩ := Kd.R_slice HO252.out
                subst eo25
                obtain ⟨ado25, fo25, _⟩ := Kd.at_int (qR HO252.out).2.2 0 (by decide) (by rw [Ny250.out]; simp)
                cases fo25
                refine hK.out _ _ trivial (fun hHeld => ?_)
                clear hK K
                refine norm_ (a' := ?_) ?_ ?_
                rotate_left
                · show Act.put _ (some 11) _ = _
                  simp only [Act.put, List.setIfInBounds_toArray, List.set_cons_zero, List.set_cons_succ, i64_w, i32_w]
                  rfl
                refine pure_ (i := 7) (N := some 14) (v := ?_) (a' := ?_) #[true, true, true, true, true, true, true, true, false, true, false] rfl rfl (any_of HT_.out (by kernel_rfl)) (fun _ _ _ h => h) (Or.inl ⟨by rfl, ?_⟩) ?_ ?_
                rotate_left
                · intro w'
                  go_simp
                  with_reducible rfl
                rotate_left
                · simp only [Act.put, List.setIfInBounds_toArray, List.set_cons_zero, List.set_cons_succ, i64_w, i32_w]
                  rfl
                exact norm_ (by first | (simp only [putAll, Act.put, List.setIfInBounds_toArray, List.set_cons_zero, List.set_cons_succ]; done) | (simp only [putAll, Act.put, List.setIfInBounds_toArray, List.set_cons_zero, List.set_cons_succ]; rfl)) (hJ4_6_9 (.slice (some ado25) y250.length co25, ado25) _ ⟨(by (with_reducible repeat (first | apply qA | apply qN | apply qD)); exact HO239.out), (by (with_reducible repeat (first | apply qA | apply qN | apply qD)); exact HO242.out), (by (with_reducible repeat (first | apply qA | apply qN | apply qD)); exact HO246.out), (by (with_reducible repeat (first | apply qA | apply qN | apply qD)); exact Kd.R_mono HO252.out (fun _ hk => ⟨hk.1.2, hk.2⟩)), ⟨_, rfl⟩, (by (with_reducible repeat (first | refine zN ?_ _ | refine zD ?_ | refine zA ?_ _)); exact BK232.out), (by repeat (first | (with_reducible first | exact HI235.out | apply IsS103.alloc | apply IsS103.drewN | apply IsS103.drew | apply IsS103.set_1 | refine IsS103.far ?_ NB235_232.out _) | exact HI235.out)), (by repeat (first | (with_reducible first | exact HB.out | apply yA | apply yN | apply yD | refine yS ?_ (IsS103.ge HI235.out) | refine yS ?_ GE232.out) | exact HB.out))⟩)
            · skip
              rintro ⟨v251, adz_v251⟩ w17 ⟨h0_, h1_, h2_, h3_, h4_, h5_, h6_, h7_⟩
              have n0_ : Aside0 (Kd.R (Kd.int .i64) 3 w17 w.heap.size (fun k_ => some k_ ≠ (.slice Aqv241 t240.length cqv241 : Value).ownBlock ∧ some k_ ≠ (v251 : Value).ownBlock) (.slice Aqv238 t237.length cqv238) t237) := ⟨h0_⟩
              have n1_ : Aside0 (Kd.R (Kd.int .i64) 3 w17 w.heap.size (fun k_ => some k_ ≠ (.slice Aqv238 t237.length cqv238 : Value).ownBlock ∧ some k_ ≠ (v251 : Value).ownBlock) (.slice Aqv241 t240.length cqv241) t240) := ⟨h1_⟩
              have n2_ : Aside0 (Kd.R (Kd.int .u8) 5 w17 w.heap.size (fun _ => True) (.slice Aqv245 t244.length cqv245) t244) := ⟨h2_⟩
              have n3_ : Aside0 (Kd.R (Kd.int .i64) 3 w17 w.heap.size (fun k_ => some k_ ≠ (.slice Aqv238 t237.length cqv238 : Value).ownBlock ∧ some k_ ≠ (.slice Aqv241 t240.length cqv241 : Value).ownBlock) v251 y250) := ⟨h3_⟩
              have n4_ : Aside0 (∃ c_, (v251 : Value) = .slice (some adz_v251) y250.length c_) := ⟨h4_⟩
              have n5_ : Aside0 (w17.heap[gb232]? = some (.cells #[.int .i64 0, .slice none 0 0, .slice none 0 0, .int .i64 0, .slice none 0 0] 48 (0, 0))) := ⟨h5_⟩
              have n6_ : Aside0 (IsS103 w w17 g235 t233 t254) := ⟨h6_⟩
              have n7_ : Aside0 (Below w.heap.size w w17) := ⟨h7_⟩
              clear BK232
              clear HI235
              clear HB
              clear h0_ h1_ h2_ h3_ h4_ h5_ h6_ h7_
              have HO239 := n0_
              have HO242 := n1_
              have HO246 := n2_
              have HO252 := n3_
              have HA_HO252 := n4_
              have BK232 := n5_
              have HI235 := n6_
              have HB := n7_
              clear n0_ n1_ n2_ n3_ n4_ n5_ n6_ n7_
              have hHeld := trivial
              obtain ⟨co18, eo18⟩ := HA_HO252.out
              clear HA_HO252
              subst eo18
              refine norm_ (a' := ?_) ?_ ?_
              rotate_left
              · simp only [putAll, Act.put, List.setIfInBounds_toArray, List.set_cons_zero, List.set_cons_succ]
                rfl
              refine two_ (i := 8) (j := 9) (Ni := some 15) (Nj := none) #[true, true, true, true, true, true, true, true, true, false, false] #[true, true, true, true, true, true, true, true, false, true, false] rfl rfl rfl rfl (two_of HT_.out (by kernel_rfl)) (by decide) (by decide) (fun K hK => ?_) (fun K hK => ?_)
              · skip
                (have p255 : 0 ≤ (t253 : Int) := of_decide_eq_true (by first | (with_reducible assumption) | assumption); have q255 : t253 < (y250.length : Int) := of_decide_eq_true (by first | (with_reducible assumption) | assumption); obtain ⟨ad255, e255, hx255_0⟩ := Kd.at_int (qR HO252.out).2.2 t253 p255 q255; obtain rfl : adz_v251 = ad255 := (by injection e255))
                refine value_ (w1 := ?_) (v := ?_) (by rfl) rfl ?_ ?_
                rotate_left 2
                · go_simp
                  constructor
                  · rfl
                  · rfl
                clear hx255_0
                refine hK.out _ _ trivial (fun hHeld => ?_)
                clear hK K
                refine norm_ (a' := ?_) ?_ ?_
                rotate_left
                · show Act.put _ (some 15) _ = _
                  simp only [Act.put, List.setIfInBounds_toArray, List.set_cons_zero, List.set_cons_succ, i64_w, i32_w]
                  rfl
                exact norm_ (by first | (simp only [putAll, Act.put, List.setIfInBounds_toArray, List.set_cons_zero, List.set_cons_succ]; done) | (simp only [putAll, Act.put, List.setIfInBounds_toArray, List.set_cons_zero, List.set_cons_succ]; rfl)) (hJ4_6_8 (.slice (some adz_v251) y250.length co18, adz_v251) _ ⟨(by (with_reducible repeat (first | apply qA | apply qN | apply qD)); exact HO239.out), (by (with_reducible repeat (first | apply qA | apply qN | apply qD)); exact HO242.out), (by (with_reducible repeat (first | apply qA | apply qN | apply qD)); exact HO246.out), (by (with_reducible repeat (first | apply qA | apply qN | apply qD)); exact HO252.out), ⟨_, rfl⟩, (by (with_reducible repeat (first | refine zN ?_ _ | refine zD ?_ | refine zA ?_ _)); exact BK232.out), (by repeat (first | (with_reducible first | exact HI235.out | apply IsS103.alloc | apply IsS103.drewN | apply IsS103.drew | apply IsS103.set_1 | refine IsS103.far ?_ NB235_232.out _) | exact HI235.out)), (by repeat (first | (with_reducible first | exact HB.out | apply yA | apply yN | apply yD | refine yS ?_ (IsS103.ge HI235.out) | refine yS ?_ GE232.out) | exact HB.out))⟩)
              · skip
                have hs19 : w17.cell? ⟨gb232, 0, none⟩ = some (.int .i64 0) := (zC BK232.out 0).trans rfl
                have hfs19 := zF BK232.out 0
                have hs21 : w17.cell? ⟨gb232, 1, none⟩ = some (.slice none 0 0) := (zC BK232.out 1).trans rfl
                have hfs21 := zF BK232.out 1
                have hs23 : w17.cell? ⟨gb232, 2, none⟩ = some (.slice none 0 0) := (zC BK232.out 2).trans rfl
                have hfs23 := zF BK232.out 2
                have hs24 : w17.cell? ⟨gb232, 3, none⟩ = some (.int .i64 0) := (zC BK232.out 3).trans rfl
                have hfs24 := zF BK232.out 3
                have hs26 : w17.cell? ⟨gb232, 4, none⟩ = some (.slice none 0 0) := (zC BK232.out 4).trans rfl
                have hfs26 := zF BK232.out 4
                refine skip_ (w1 := ?_) (by rfl) rfl ?_ ?_
                rotate_left
                · go_simp
                  rfl
                refine hK.out _ _ trivial (fun hHeld => ?_)
                clear hK K
                exact norm_ (by first | (simp only [putAll, Act.put, List.setIfInBounds_toArray, List.set_cons_zero, List.set_cons_succ]; done) | (simp only [putAll, Act.put, List.setIfInBounds_toArray, List.set_cons_zero, List.set_cons_succ]; rfl)) (hJ4_6_9 (.slice (some adz_v251) y250.length co18, adz_v251) _ ⟨(by (with_reducible repeat (first | apply qA | apply qN | apply qD)); exact Kd.R_mono (qF (p := ⟨gb232, 4, none⟩) (qF (p := ⟨gb232, 3, none⟩) (qF (p := ⟨gb232, 2, none⟩) (qF (p := ⟨gb232, 1, none⟩) (qF (p := ⟨gb232, 0, none⟩) (Kd.R_types HO239.out BK232.out (by decide)) (fun _ hk => hk.2) (.int .i64 t236)) (fun _ hk => hk.2) (.slice Aqv238 t237.length cqv238)) (fun _ hk => hk.2) (.slice Aqv241 t240.length cqv241)) (fun _ hk => hk.2) (.int .i64 t243)) (fun _ hk => hk.2) (.slice Aqv245 t244.length cqv245)) (fun _ hk => ⟨hk.1.1, hk.1.2⟩)), (by (with_reducible repeat (first | apply qA | apply qN | apply qD)); exact Kd.R_mono (qF (p := ⟨gb232, 4, none⟩) (qF (p := ⟨gb232, 3, none⟩) (qF (p := ⟨gb232, 2, none⟩) (qF (p := ⟨gb232, 1, none⟩) (qF (p := ⟨gb232, 0, none⟩) (Kd.R_types HO242.out BK232.out (by decide)) (fun _ hk => hk.2) (.int .i64 t236)) (fun _ hk => hk.2) (.slice Aqv238 t237.length cqv238)) (fun _ hk => hk.2) (.slice Aqv241 t240.length cqv241)) (fun _ hk => hk.2) (.int .i64 t243)) (fun _ hk => hk.2) (.slice Aqv245 t244.length cqv245)) (fun _ hk => ⟨hk.1.1, hk.1.2⟩)), (by (with_reducible repeat (first | apply qA | apply qN | apply qD)); exact Kd.R_mono (qF (p := ⟨gb232, 4, none⟩) (qF (p := ⟨gb232, 3, none⟩) (qF (p := ⟨gb232, 2, none⟩) (qF (p := ⟨gb232, 1, none⟩) (qF (p := ⟨gb232, 0, none⟩) (Kd.R_types HO246.out BK232.out (by decide)) (fun _ hk => hk.2) (.int .i64 t236)) (fun _ hk => hk.2) (.slice Aqv238 t237.length cqv238)) (fun _ hk => hk.2) (.slice Aqv241 t240.length cqv241)) (fun _ hk => hk.2) (.int .i64 t243)) (fun _ hk => hk.2) (.slice Aqv245 t244.length cqv245)) (fun _ hk => trivial)), (by (with_reducible repeat (first | apply qA | apply qN | apply qD)); exact Kd.R_mono (qF (p := ⟨gb232, 4, none⟩) (qF (p := ⟨gb232, 3, none⟩) (qF (p := ⟨gb232, 2, none⟩) (qF (p := ⟨gb232, 1, none⟩) (qF (p := ⟨gb232, 0, none⟩) (Kd.R_types HO252.out BK232.out (by decide)) (fun _ hk => hk.2) (.int .i64 t236)) (fun _ hk => hk.2) (.slice Aqv238 t237.length cqv238)) (fun _ hk => hk.2) (.slice Aqv241 t240.length cqv241)) (fun _ hk => hk.2) (.int .i64 t243)) (fun _ hk => hk.2) (.slice Aqv245 t244.length cqv245)) (fun _ hk => ⟨hk.1.1, hk.1.2⟩)), ⟨_, rfl⟩, (by (with_reducible repeat (first | refine zN ?_ _ | refine zD ?_ | refine zA ?_ _)); refine blk_put (cs := #[.int .i64 t236, .slice Aqv238 t237.length cqv238, .slice Aqv241 t240.length cqv241, .int .i64 t243, .slice none 0 0]) ?_ 4 _ rfl; (with_reducible repeat (first | refine zN ?_ _ | refine zD ?_ | refine zA ?_ _)); refine blk_put (cs := #[.int .i64 t236, .slice Aqv238 t237.length cqv238, .slice Aqv241 t240.length cqv241, .int .i64 0, .slice none 0 0]) ?_ 3 _ rfl; (with_reducible repeat (first | refine zN ?_ _ | refine zD ?_ | refine zA ?_ _)); refine blk_put (cs := #[.int .i64 t236, .slice Aqv238 t237.length cqv238, .slice none 0 0, .int .i64 0, .slice none 0 0]) ?_ 2 _ rfl; (with_reducible repeat (first | refine zN ?_ _ | refine zD ?_ | refine zA ?_ _)); refine blk_put (cs := #[.int .i64 t236, .slice none 0 0, .slice none 0 0, .int .i64 0, .slice none 0 0]) ?_ 1 _ rfl; (with_reducible repeat (first | refine zN ?_ _ | refine zD ?_ | refine zA ?_ _)); refine blk_put (cs := #[.int .i64 0, .slice none 0 0, .slice none 0 0, .int .i64 0, .slice none 0 0]) ?_ 0 _ rfl; (with_reducible repeat (first | refine zN ?_ _ | refine zD ?_ | refine zA ?_ _)); exact BK232.out), (by repeat (first | (with_reducible first | exact HI235.out | apply IsS103.alloc | apply IsS103.drewN | apply IsS103.drew | apply IsS103.set_1 | refine IsS103.far ?_ NB235_232.out _) | exact HI235.out)), (by repeat (first | (with_reducible first | exact HB.out | apply yA | apply yN | apply yD | refine yS ?_ (IsS103.ge HI235.out) | refine yS ?_ GE232.out) | exact HB.out))⟩)
          · skip
            rintro ⟨v251, adz_v251⟩ w25 ⟨h0_, h1_, h2_, h3_, h4_, h5_, h6_, h7_⟩
            have n0_ : Aside0 (Kd.R (Kd.int .i64) 3 w25 w.heap.size (fun k_ => some k_ ≠ (.slice Aqv241 t240.length cqv241 : Value).ownBlock ∧ some k_ ≠ (v251 : Value).ownBlock) (.slice Aqv238 t237.length cqv238) t237) := ⟨h0_⟩
            have n1_ : Aside0 (Kd.R (Kd.int .i64) 3 w25 w.heap.size (fun k_ => some k_ ≠ (.slice Aqv238 t237.length cqv238 : Value).ownBlock ∧ some k_ ≠ (v251 : Value).ownBlock) (.slice Aqv241 t240.length cqv241) t240) := ⟨h1_⟩
            have n2_ : Aside0 (Kd.R (Kd.int .u8) 5 w25 w.heap.size (fun _ => True) (.slice Aqv245 t244.length cqv245) t244) := ⟨h2_⟩
            have n3_ : Aside0 (Kd.R (Kd.int .i64) 3 w25 w.heap.size (fun k_ => some k_ ≠ (.slice Aqv238 t237.length cqv238 : Value).ownBlock ∧ some k_ ≠ (.slice Aqv241 t240.length cqv241 : Value).ownBlock) v251 y250) := ⟨h3_⟩
            have n4_ : Aside0 (∃ c_, (v251 : Value) = .slice (some adz_v251) y250.length c_) := ⟨h4_⟩
            have n5_ : Aside0 (w25.heap[gb232]? = some (.cells #[.int .i64 t236, .slice Aqv238 t237.length cqv238, .slice Aqv241 t240.length cqv241, .int .i64 t243, .slice Aqv245 t244.length cqv245] 48 (0, 0))) := ⟨h5_⟩
            have n6_ : Aside0 (IsS103 w w25 g235 t233 t254) := ⟨h6_⟩
            have n7_ : Aside0 (Below w.heap.size w w25) := ⟨h7_⟩
            clear BK232
            clear HI235
            clear HB
            clear h0_ h1_ h2_ h3_ h4_ h5_ h6_ h7_
            have HO239 := n0_
            have HO242 := n1_
            have HO246 := n2_
            have HO252 := n3_
            have HA_HO252 := n4_
            have BK232 := n5_
            have HI235 := n6_
            have HB := n7_
            clear n0_ n1_ n2_ n3_ n4_ n5_ n6_ n7_
            have hHeld := trivial
            obtain ⟨co26, eo26⟩ := HA_HO252.out
            clear HA_HO252
            subst eo26
            refine norm_ (a' := ?_) ?_ ?_
            rotate_left
            · simp only [putAll, Act.put, List.setIfInBounds_toArray, List.set_cons_zero, List.set_cons_succ]
              rfl
            refine one_ (i := 8) (N := some 15) #[true, true, true, true, true, true, true, true, true, true, false] rfl rfl (one_of HT_.out (by kernel_rfl)) (by decide) (fun K hK => ?_)
            (have p255 : 0 ≤ (t253 : Int) := of_decide_eq_true (by first | (with_reducible assumption) | assumption); have q255 : t253 < (y250.length : Int) := of_decide_eq_true (by first | (with_reducible assumption) | assumption); obtain ⟨ad255, e255, hx255_0⟩ := Kd.at_int (qR HO252.out).2.2 t253 p255 q255; obtain rfl : adz_v251 = ad255 := (by injection e255))
            refine value_ (w1 := ?_) (v := ?_) (by rfl) rfl ?_ ?_
            rotate_left 2
            · go_simp
              constructor
              · rfl
              · rfl
            clear hx255_0
            refine hK.out _ _ trivial (fun hHeld => ?_)
            clear hK K
            refine norm_ (a' := ?_) ?_ ?_
            rotate_left
            · show Act.put _ (some 15) _ = _
              simp only [Act.put, List.setIfInBounds_toArray, List.set_cons_zero, List.set_cons_succ, i64_w, i32_w]
              rfl
            exact norm_ (by first | (simp only [putAll, Act.put, List.setIfInBounds_toArray, List.set_cons_zero, List.set_cons_succ]; done) | (simp only [putAll, Act.put, List.setIfInBounds_toArray, List.set_cons_zero, List.set_cons_succ]; rfl)) (hJ4_6_8_9 (.slice (some adz_v251) y250.length co26, adz_v251) _ ⟨(by (with_reducible repeat (first | apply qA | apply qN | apply qD)); exact HO239.out), (by (with_reducible repeat (first | apply qA | apply qN | apply qD)); exact HO242.out), (by (with_reducible repeat (first | apply qA | apply qN | apply qD)); exact HO246.out), (by (with_reducible repeat (first | apply qA | apply qN | apply qD)); exact HO252.out), ⟨_, rfl⟩, (by (with_reducible repeat (first | refine zN ?_ _ | refine zD ?_ | refine zA ?_ _)); exact BK232.out), (by repeat (first | (with_reducible first | exact HI235.out | apply IsS103.alloc | apply IsS103.drewN | apply IsS103.drew | apply IsS103.set_1 | refine IsS103.far ?_ NB235_232.out _) | exact HI235.out)), (by repeat (first | (with_reducible first | exact HB.out | apply yA | apply yN | apply yD | refine yS ?_ (IsS103.ge HI235.out) | refine yS ?_ GE232.out) | exact HB.out))⟩)
        · skip
          rintro ⟨v251, adz_v251⟩ w17 ⟨h0_, h1_, h2_, h3_, h4_, h5_, h6_, h7_⟩
          have n0_ : Aside0 (Kd.R (Kd.int .i64) 3 w17 w.heap.size (fun k_ => some k_ ≠ (.slice Aqv241 t240.length cqv241 : Value).ownBlock ∧ some k_ ≠ (v251 : Value).ownBlock) (.slice Aqv238 t237.length cqv238) t237) := ⟨h0_⟩
          have n1_ : Aside0 (Kd.R (Kd.int .i64) 3 w17 w.heap.size (fun k_ => some k_ ≠ (.slice Aqv238 t237.length cqv238 : Value).ownBlock ∧ some k_ ≠ (v251 : Value).ownBlock) (.slice Aqv241 t240.length cqv241) t240) := ⟨h1_⟩
          have n2_ : Aside0 (Kd.R (Kd.int .u8) 5 w17 w.heap.size (fun _ => True) (.slice Aqv245 t244.length cqv245) t244) := ⟨h2_⟩
          have n3_ : Aside0 (Kd.R (Kd.int .i64) 3 w17 w.heap.size (fun k_ => some k_ ≠ (.slice Aqv238 t237.length cqv238 : Value).ownBlock ∧ some k_ ≠ (.slice Aqv241 t240.length cqv241 : Value).ownBlock) v251 y250) := ⟨h3_⟩
          have n4_ : Aside0 (∃ c_, (v251 : Value) = .slice (some adz_v251) y250.length c_) := ⟨h4_⟩
          have n5_ : Aside0 (w17.heap[gb232]? = some (.cells #[.int .i64 0, .slice none 0 0, .slice none 0 0, .int .i64 0, .slice none 0 0] 48 (0, 0))) := ⟨h5_⟩
          have n6_ : Aside0 (IsS103 w w17 g235 t233 t254) := ⟨h6_⟩
          have n7_ : Aside0 (Below w.heap.size w w17) := ⟨h7_⟩
          clear BK232
          clear HI235
          clear HB
          clear h0_ h1_ h2_ h3_ h4_ h5_ h6_ h7_
          have HO239 := n0_
          have HO242 := n1_
          have HO246 := n2_
          have HO252 := n3_
          have HA_HO252 := n4_
          have BK232 := n5_
          have HI235 := n6_
          have HB := n7_
          clear n0_ n1_ n2_ n3_ n4_ n5_ n6_ n7_
          have hHeld := trivial
          obtain ⟨co18, eo18⟩ := HA_HO252.out
          clear HA_HO252
          subst eo18
          refine norm_ (a' := ?_) ?_ ?_
          rotate_left
          · simp only [putAll, Act.put, List.setIfInBounds_toArray, List.set_cons_zero, List.set_cons_succ]
            rfl
          refine one_ (i := 9) (N := none) #[true, true, true, true, true, true, true, true, true, true, false] rfl rfl (one_of HT_.out (by kernel_rfl)) (by decide) (fun K hK => ?_)
          have hs19 : w17.cell? ⟨gb232, 0, none⟩ = some (.int .i64 0) := (zC BK232.out 0).trans rfl
          have hfs19 := zF BK232.out 0
          have hs21 : w17.cell? ⟨gb232, 1, none⟩ = some (.slice none 0 0) := (zC BK232.out 1).trans rfl
          have hfs21 := zF BK232.out 1
          have hs23 : w17.cell? ⟨gb232, 2, none⟩ = some (.slice none 0 0) := (zC BK232.out 2).trans rfl
          have hfs23 := zF BK232.out 2
          have hs24 : w17.cell? ⟨gb232, 3, none⟩ = some (.int .i64 0) := (zC BK232.out 3).trans rfl
          have hfs24 := zF BK232.out 3
          have hs26 : w17.cell? ⟨gb232, 4, none⟩ = some (.slice none 0 0) := (zC BK232.out 4).trans rfl
          have hfs26 := zF BK232.out 4
          refine skip_ (w1 := ?_) (by rfl) rfl ?_ ?_
          rotate_left
          · go_simp
            rfl
          refine hK.out _ _ trivial (fun hHeld => ?_)
          clear hK K
          exact norm_ (by first | (simp only [putAll, Act.put, List.setIfInBounds_toArray, List.set_cons_zero, List.set_cons_succ]; done) | (simp only [putAll, Act.put, List.setIfInBounds_toArray, List.set_cons_zero, List.set_cons_succ]; rfl)) (hJ4_6_8_9 (.slice (some adz_v251) y250.length co18, adz_v251) _ ⟨(by (with_reducible repeat (first | apply qA | apply qN | apply qD)); exact Kd.R_mono (qF (p := ⟨gb232, 4, none⟩) (qF (p := ⟨gb232, 3, none⟩) (qF (p := ⟨gb232, 2, none⟩) (qF (p := ⟨gb232, 1, none⟩) (qF (p := ⟨gb232, 0, none⟩) (Kd.R_types HO239.out BK232.out (by decide)) (fun _ hk => hk.2) (.int .i64 t236)) (fun _ hk => hk.2) (.slice Aqv238 t237.length cqv238)) (fun _ hk => hk.2) (.slice Aqv241 t240.length cqv241)) (fun _ hk => hk.2) (.int .i64 t243)) (fun _ hk => hk.2) (.slice Aqv245 t244.length cqv245)) (fun _ hk => ⟨hk.1.1, hk.1.2⟩)), (by (with_reducible repeat (first | apply qA | apply qN | apply qD)); exact Kd.R_mono (qF (p := ⟨gb232, 4, none⟩) (qF (p := ⟨gb232, 3, none⟩) (qF (p := ⟨gb232, 2, none⟩) (qF (p := ⟨gb232, 1, none⟩) (qF (p := ⟨gb232, 0, none⟩) (Kd.R_types HO242.out BK232.out (by decide)) (fun _ hk => hk.2) (.int .i64 t236)) (fun _ hk => hk.2) (.slice Aqv238 t237.length cqv238)) (fun _ hk => hk.2) (.slice Aqv241 t240.length cqv241)) (fun _ hk => hk.2) (.int .i64 t243)) (fun _ hk => hk.2) (.slice Aqv245 t244.length cqv245)) (fun _ hk => ⟨hk.1.1, hk.1.2⟩)), (by (with_reducible repeat (first | apply qA | apply qN | apply qD)); exact Kd.R_mono (qF (p := ⟨gb232, 4, none⟩) (qF (p := ⟨gb232, 3, none⟩) (qF (p := ⟨gb232, 2, none⟩) (qF (p := ⟨gb232, 1, none⟩) (qF (p := ⟨gb232, 0, none⟩) (Kd.R_types HO246.out BK232.out (by decide)) (fun _ hk => hk.2) (.int .i64 t236)) (fun _ hk => hk.2) (.slice Aqv238 t237.length cqv238)) (fun _ hk => hk.2) (.slice Aqv241 t240.length cqv241)) (fun _ hk => hk.2) (.int .i64 t243)) (fun _ hk => hk.2) (.slice Aqv245 t244.length cqv245)) (fun _ hk => trivial)), (by (with_reducible repeat (first | apply qA | apply qN | apply qD)); exact Kd.R_mono (qF (p := ⟨gb232, 4, none⟩) (qF (p := ⟨gb232, 3, none⟩) (qF (p := ⟨gb232, 2, none⟩) (qF (p := ⟨gb232, 1, none⟩) (qF (p := ⟨gb232, 0, none⟩) (Kd.R_types HO252.out BK232.out (by decide)) (fun _ hk => hk.2) (.int .i64 t236)) (fun _ hk => hk.2) (.slice Aqv238 t237.length cqv238)) (fun _ hk => hk.2) (.slice Aqv241 t240.length cqv241)) (fun _ hk => hk.2) (.int .i64 t243)) (fun _ hk => hk.2) (.slice Aqv245 t244.length cqv245)) (fun _ hk => ⟨hk.1.1, hk.1.2⟩)), ⟨_, rfl⟩, (by (with_reducible repeat (first | refine zN ?_ _ | refine zD ?_ | refine zA ?_ _)); refine blk_put (cs := #[.int .i64 t236, .slice Aqv238 t237.length cqv238, .slice Aqv241 t240.length cqv241, .int .i64 t243, .slice none 0 0]) ?_ 4 _ rfl; (with_reducible repeat (first | refine zN ?_ _ | refine zD ?_ | refine zA ?_ _)); refine blk_put (cs := #[.int .i64 t236, .slice Aqv238 t237.length cqv238, .slice Aqv241 t240.length cqv241, .int .i64 0, .slice none 0 0]) ?_ 3 _ rfl; (with_reducible repeat (first | refine zN ?_ _ | refine zD ?_ | refine zA ?_ _)); refine blk_put (cs := #[.int .i64 t236, .slice Aqv238 t237.length cqv238, .slice none 0 0, .int .i64 0, .slice none 0 0]) ?_ 2 _ rfl; (with_reducible repeat (first | refine zN ?_ _ | refine zD ?_ | refine zA ?_ _)); refine blk_put (cs := #[.int .i64 t236, .slice none 0 0, .slice none 0 0, .int .i64 0, .slice none 0 0]) ?_ 1 _ rfl; (with_reducible repeat (first | refine zN ?_ _ | refine zD ?_ | refine zA ?_ _)); refine blk_put (cs := #[.int .i64 0, .slice none 0 0, .slice none 0 0, .int .i64 0, .slice none 0 0]) ?_ 0 _ rfl; (with_reducible repeat (first | refine zN ?_ _ | refine zD ?_ | refine zA ?_ _)); exact BK232.out), (by repeat (first | (with_reducible first | exact HI235.out | apply IsS103.alloc | apply IsS103.drewN | apply IsS103.drew | apply IsS103.set_1 | refine IsS103.far ?_ NB235_232.out _) | exact HI235.out)), (by repeat (first | (with_reducible first | exact HB.out | apply yA | apply yN | apply yD | refine yS ?_ (IsS103.ge HI235.out) | refine yS ?_ GE232.out) | exact HB.out))⟩)
      rintro ⟨v251, adz_v251⟩ w25 ⟨h0_, h1_, h2_, h3_, h4_, h5_, h6_, h7_⟩
      have n0_ : Aside0 (Kd.R (Kd.int .i64) 3 w25 w.heap.size (fun k_ => some k_ ≠ (.slice Aqv241 t240.length cqv241 : Value).ownBlock ∧ some k_ ≠ (v251 : Value).ownBlock) (.slice Aqv238 t237.length cqv238) t237) := ⟨h0_⟩
      have n1_ : Aside0 (Kd.R (Kd.int .i64) 3 w25 w.heap.size (fun k_ => some k_ ≠ (.slice Aqv238 t237.length cqv238 : Value).ownBlock ∧ some k_ ≠ (v251 : Value).ownBlock) (.slice Aqv241 t240.length cqv241) t240) := ⟨h1_⟩
      have n2_ : Aside0 (Kd.R (Kd.int .u8) 5 w25 w.heap.size (fun _ => True) (.slice Aqv245 t244.length cqv245) t244) := ⟨h2_⟩
      have n3_ : Aside0 (Kd.R (Kd.int .i64) 3 w25 w.heap.size (fun k_ => some k_ ≠ (.slice Aqv238 t237.length cqv238 : Value).ownBlock ∧ some k_ ≠ (.slice Aqv241 t240.length cqv241 : Value).ownBlock) v251 y250) := ⟨h3_⟩
      have n4_ : Aside0 (∃ c_, (v251 : Value) = .slice (some adz_v251) y250.length c_) := ⟨h4_⟩
      have n5_ : Aside0 (w25.heap[gb232]? = some (.cells #[.int .i64 t236, .slice Aqv238 t237.length cqv238, .slice Aqv241 t240.length cqv241, .int .i64 t243, .slice Aqv245 t244.length cqv245] 48 (0, 0))) := ⟨h5_⟩
      have n6_ : Aside0 (IsS103 w w25 g235 t233 t254) := ⟨h6_⟩
      have n7_ : Aside0 (Below w.heap.size w w25) := ⟨h7_⟩
      clear BK232
      clear HI235
      clear HB
      clear h0_ h1_ h2_ h3_ h4_ h5_ h6_ h7_
      have HO239 := n0_
      have HO242 := n1_
      have HO246 := n2_
      have HO252 := n3_
      have HA_HO252 := n4_
      have BK232 := n5_
      have HI235 := n6_
      have HB := n7_
      clear n0_ n1_ n2_ n3_ n4_ n5_ n6_ n7_
      have hHeld := trivial
      obtain ⟨co26, eo26⟩ := HA_HO252.out
      clear HA_HO252
      subst eo26
      refine norm_ (a' := ?_) ?_ ?_
      rotate_left
      · simp only [putAll, Act.put, List.setIfInBounds_toArray, List.set_cons_zero, List.set_cons_succ]
        rfl
      refine pure_ (i := 10) (N := some 3) (v := ?_) (a' := ?_) #[true, true, true, true, true, true, true, true, true, true, true] rfl rfl (any_of HT_.out (by kernel_rfl)) (fun _ _ _ h => h) (Or.inl ⟨by rfl, ?_⟩) ?_ ?_
      rotate_left
      · intro w'
        go_simp
        with_reducible rfl
      rotate_left
      · simp only [Act.put, List.setIfInBounds_toArray, List.set_cons_zero, List.set_cons_succ, i64_w, i32_w]
        rfl
      refine done_ (done_of HT_.out (by kernel_rfl)) ?_
      try go_wp2
      refine bodyPost_ret (results_ct rfl _ _ gb232 48 #[.int .i64 t236, .slice Aqv238 t237.length cqv238, .slice Aqv241 t240.length cqv241, .int .i64 t243, .slice Aqv245 t244.length cqv245] (0, 0) _ rfl (by (with_reducible repeat (first | refine zN ?_ _ | refine zD ?_ | refine zA ?_ _)); exact BK232.out) Try.underlying48 rfl (by kernel_rfl)) rfl ?_
      exact ⟨_, _, _, by first | rfl | (simp [errW_none, errW_some] <;> rfl) | (simp [*, errW_none, errW_some] <;> rfl), by (with_reducible repeat (first | apply qA | apply qN | apply qD)); exact Kd.R_mono HO239.out (fun _ hk => hk.1), by (with_reducible repeat (first | apply qA | apply qN | apply qD)); exact Kd.R_mono HO242.out (fun _ hk => hk.1), by (with_reducible repeat (first | apply qA | apply qN | apply qD)); exact HO246.out, by repeat (first | (with_reducible first | exact HB.out | apply yA | apply yN | apply yD | refine yS ?_ (IsS103.ge HI235.out) | refine yS ?_ GE232.out) | exact HB.out)⟩
    · rw [if_neg c7] at H
      exact absurd H (by simp)
  · rw [if_neg c6] at H
    exact absurd H (by simp)

open Go.Proofs.YtcnipdbommmkmaaAl
/-! ### impl_vmByte: function 69 -/
def impl_vmByte.f (a0 : Int) : Option (Bool) := if a0 ≥ 0 then (some (decide (a0 ≤ 255))) else (some false)
set_option maxHeartbeats 8000000 in
set_option maxRecDepth 100000 in
theorem impl_vmByte.calls (a0 : Int) (r : Bool) (w : World) (h : impl_vmByte.f a0 = some r) :
    Calls Try.prog 69 #[.int .i64 a0] w fun e w' => e = .returned (.bool r) ∧ Drawn0 w w' := by
  have H : (if a0 ≥ 0 then (some (decide (a0 ≤ 255))) else (some false)) = some r := h
  clear h
  by_cases c2 : a0 ≥ 0
  · rw [if_pos c2] at H
    have c2b0 : decide (0 ≤ a0) = true := decide_eq_true c2
    clear c2
    obtain rfl := Option.some.inj H
    go_enter Try.func69, Try.ntmps69
    go_wp2
    go_ret
    exact ⟨by first | rfl | (simp; done) | (simp [*]; done), by repeat (first | exact Drawn0.refl _ | apply Drawn0.step)⟩
  · rw [if_neg c2] at H
    have c2b0 : decide (0 ≤ a0) = false := decide_eq_false c2
    clear c2
    obtain rfl := Option.some.inj H
    go_enter Try.func69, Try.ntmps69
    go_wp2
    go_ret
    exact ⟨by first | rfl | (simp; done) | (simp [*]; done), by repeat (first | exact Drawn0.refl _ | apply Drawn0.step)⟩

/-! ### impl_vmNumbers: function 82 -/
def impl_vmNumbers.f (l0 : List Int) : Option (List Int) := if l0.length ≤ 35184372088832 then some l0 else none
theorem impl_vmNumbers.calls (A0 : Option Addr) (c0 : Nat) (l0 : List Int) (r : List Int) (w : World) (hr0 : Kd.C (Kd.int .i64) w A0 l0.length l0) (hc0 : l0.length ≤ c0) (h : impl_vmNumbers.f l0 = some r) :
    Calls Try.prog 82 #[.slice A0 l0.length c0] w fun e w' => ∃ v0_ : Value, e = .returned (v0_) ∧ Kd.R (Kd.int .i64) 3 w' w.heap.size (fun _ => True) v0_ r ∧ Below w.heap.size w w' := by
  exact Go.Proofs.YtcnipdbommmkmaaCopyInt.copy_any A0 c0 l0 r w hr0 hc0 h
open Go.Proofs.YtcnipdbommmkmaaAl
/-! ### impl_vmCopy: function 62 -/
def impl_vmCopy.f (a0_0 : Int) (l0_1 : List Int) (l0_2 : List Int) (a0_3 : Int) : Option (Int × List Int × List Int × Int) := (impl_vmNumbers.f l0_1).bind fun t258 => ((impl_vmNumbers.f l0_2).bind fun t261 => (some (a0_0, t258, t261, a0_3)))
set_option maxHeartbeats 8000000 in
set_option maxRecDepth 100000 in
theorem impl_vmCopy.calls (a0_0 : Int) (A0_1 : Option Addr) (c0_1 : Nat) (l0_1 : List Int) (A0_2 : Option Addr) (c0_2 : Nat) (l0_2 : List Int) (a0_3 : Int) (r1 : Int) (r2 : List Int) (r3 : List Int) (r4 : Int) (w : World) (hr0_1 : Kd.C (Kd.int .i64) w A0_1 l0_1.length l0_1) (hc0_1 : l0_1.length ≤ c0_1) (hr0_2 : Kd.C (Kd.int .i64) w A0_2 l0_2.length l0_2) (hc0_2 : l0_2.length ≤ c0_2) (h : impl_vmCopy.f a0_0 l0_1 l0_2 a0_3 = some (r1, r2, r3, r4)) :
    Calls Try.prog 62 #[.agg #[.int .i64 a0_0, .slice A0_1 l0_1.length c0_1, .slice A0_2 l0_2.length c0_2, .int .i64 a0_3]] w fun e w' => ∃ v1_ v2_ : Value, e = .returned (.agg #[.int .i64 r1, v1_, v2_, .int .i64 r4]) ∧ Kd.R (Kd.int .i64) 3 w' w.heap.size (fun k_ => some k_ ≠ (v2_ : Value).ownBlock) v1_ r2 ∧ Kd.R (Kd.int .i64) 3 w' w.heap.size (fun k_ => some k_ ≠ (v1_ : Value).ownBlock) v2_ r3 ∧ Below w.heap.size w w' := by
  have hu30 := Try.underlying30
  have HR0_1 := qM hr0_1
  have HC0_1 := qM hc0_1
  clear hr0_1 hc0_1
  have HR0_2 := qM hr0_2
  have HC0_2 := qM hc0_2
  clear hr0_2 hc0_2
  have HB := qM (Below.refl w.heap.size w)
  have H : ((impl_vmNumbers.f l0_1).bind fun t258 => ((impl_vmNumbers.f l0_2).bind fun t261 => (some (a0_0, t258, t261, a0_3)))) = some (r1, r2, r3, r4) := h
  clear h
  replace H := Option.bind_eq_some_iff.mp H
  obtain ⟨t258, A20, H⟩ := H
  replace H : ((impl_vmNumbers.f l0_2).bind fun t261 => (some (a0_0, t258, t261, a0_3))) = some (r1, r2, r3, r4) := H
  have A2 := qM A20
  clear A20
  replace H := Option.bind_eq_some_iff.mp H
  obtain ⟨t261, A30, H⟩ := H
  replace H : (some (a0_0, t258, t261, a0_3)) = some (r1, r2, r3, r4) := H
  have A3 := qM A30
  clear A30
  simp only [Option.some.injEq, Prod.mk.injEq] at H
  obtain ⟨rfl, rfl, rfl, rfl⟩ := H
  go_enter Try.func62, Try.ntmps62
  go_wp2_with (first | ((with_reducible refine gate_dst (N := 1) rfl ?_); refine box_event ?hg (N := 1) ?hd (cs := #[.int .i64 a0_0, .slice A0_1 l0_1.length c0_1, .slice A0_2 l0_2.length c0_2, .int .i64 a0_3]) (t := 30) ?hr ?_; (case hd => rfl); (case hg => rfl); (case hr => first | (go_simp; done) | (go_simp; rfl)); intro gb256 hg w4 hbox hb; have n0_ := qM (below_step (by repeat (first | (with_reducible first | exact HB.out | apply yA | apply yN | apply yD) | exact HB.out)) hb); have n1_ := qM (hbox); have n2_ := qM ((by rw [hg]; exact (below_size (by repeat (first | (with_reducible first | exact HB.out | apply yA | apply yN | apply yD) | exact HB.out))) : w.heap.size ≤ gb256)); have n3_ := qM ((by rw [hg]; exact (below_size (by repeat (first | (with_reducible first | exact HB.out | apply yA | apply yN | apply yD) | exact HB.out))) : w.heap.size ≤ gb256)); clear HB; have HB := n0_; have BK256 := n1_; have GW256 := n2_; have GE256 := n3_; clear n0_ n1_ n2_ n3_; clear hb hbox hg) | ((with_reducible refine gate_dst (N := 2) rfl ?_); refine box_event ?hg (N := 2) ?hd (cs := #[.int .i64 0, .slice none 0 0, .slice none 0 0, .int .i64 0]) (t := 30) ?hr ?_; (case hd => rfl); (case hg => rfl); (case hr => first | (go_simp; done) | (go_simp; rfl)); intro gb257 hg w5 hbox hb; have n0_ := qM (blk_below (g := gb256) (o := .cells #[.int .i64 a0_0, .slice A0_1 l0_1.length c0_1, .slice A0_2 l0_2.length c0_2, .int .i64 a0_3] 30 (0, 0)) (by (with_reducible repeat (first | refine zN ?_ _ | refine zD ?_ | refine zA ?_ _)); exact BK256.out) hb); have n1_ := qM (below_step (by repeat (first | (with_reducible first | exact HB.out | apply yA | apply yN | apply yD | refine yS ?_ GE256.out) | exact HB.out)) hb); have n2_ := qM (hbox); have n3_ := qM ((by rw [hg]; exact (below_size (by repeat (first | (with_reducible first | exact HB.out | apply yA | apply yN | apply yD | refine yS ?_ GE256.out) | exact HB.out))) : w.heap.size ≤ gb257)); have n4_ := qM ((by rw [hg]; exact (below_size (by repeat (first | (with_reducible first | exact HB.out | apply yA | apply yN | apply yD | refine yS ?_ GE256.out) | exact HB.out))) : w.heap.size ≤ gb257)); have n5_ := qM ((by rw [hg]; exact Nat.ne_of_lt (blk_lt (g := gb256) (o := .cells #[.int .i64 a0_0, .slice A0_1 l0_1.length c0_1, .slice A0_2 l0_2.length c0_2, .int .i64 a0_3] 30 (0, 0)) (by (with_reducible repeat (first | refine zN ?_ _ | refine zD ?_ | refine zA ?_ _)); exact BK256.out)) : gb256 ≠ gb257)); have n6_ := qM ((by rw [hg]; exact Nat.ne_of_gt (blk_lt (g := gb256) (o := .cells #[.int .i64 a0_0, .slice A0_1 l0_1.length c0_1, .slice A0_2 l0_2.length c0_2, .int .i64 a0_3] 30 (0, 0)) (by (with_reducible repeat (first | refine zN ?_ _ | refine zD ?_ | refine zA ?_ _)); exact BK256.out)) : gb257 ≠ gb256)); clear BK256; clear HB; have BK256 := n0_; have HB := n1_; have BK257 := n2_; have GW257 := n3_; have GE257 := n4_; have NB256_257 := n5_; have NB257_256 := n6_; clear n0_ n1_ n2_ n3_ n4_ n5_ n6_; clear hb hbox hg; have hnb6 := NB256_257.out; have hnc6 := NB257_256.out; have hcz7_0 : w5.cell? ⟨gb256, 0, none⟩ = some (.int .i64 a0_0) := (zC BK256.out 0).trans rfl; have hcz7_1 : w5.cell? ⟨gb256, 1, none⟩ = some (.slice A0_1 l0_1.length c0_1) := (zC BK256.out 1).trans rfl; have hcz7_2 : w5.cell? ⟨gb256, 2, none⟩ = some (.slice A0_2 l0_2.length c0_2) := (zC BK256.out 2).trans rfl; have hcz7_3 : w5.cell? ⟨gb256, 3, none⟩ = some (.int .i64 a0_3) := (zC BK256.out 3).trans rfl; have hfz7_0 := zF BK256.out 0; have hfz7_1 := zF BK256.out 1; have hfz7_2 := zF BK256.out 2; have hfz7_3 := zF BK256.out 3) | ((with_reducible refine gate_callee (f := 82) rfl ?_); refine goesL_ (some 5) rfl rfl Try.func82 (by kernel_rfl) rfl #[.slice A0_1 l0_1.length c0_1] rfl (by (try simp only [List.map_toArray, List.map_cons, List.map_nil]); first | done | rfl | (simp only [List.length_drop, List.length_take]; rfl)) ?_; (with_reducible refine (impl_vmNumbers.calls _ _ l0_1 t258 _ ?side1 ?side2 A2.out).mono ?_); (case side1 => repeat (first | exact (Kd.C_below HR0_1.out HB.out) | (with_reducible refine Kd.C_alloc ?_ _) | (with_reducible refine Kd.C_drewN ?_ _) | (with_reducible refine Kd.C_drew ?_))); (case side2 => exact HC0_1.out); rintro e w8 ⟨v259, rfl, ho0, hb⟩; refine ⟨_, rfl, ?_⟩; have n0_ := qM (Kd.R_lower ho0 (below_size (by repeat (first | (with_reducible first | exact HB.out | apply yA | apply yN | apply yD | refine yS ?_ GE256.out | refine yS ?_ GE257.out) | exact HB.out)))); have n1_ := qM (blk_below (g := gb256) (o := .cells #[.int .i64 a0_0, .slice A0_1 l0_1.length c0_1, .slice A0_2 l0_2.length c0_2, .int .i64 a0_3] 30 (0, 0)) (by (with_reducible repeat (first | refine zN ?_ _ | refine zD ?_ | refine zA ?_ _)); exact BK256.out) hb); have n2_ := qM (blk_below (g := gb257) (o := .cells #[.int .i64 0, .slice none 0 0, .slice none 0 0, .int .i64 0] 30 (0, 0)) (by (with_reducible repeat (first | refine zN ?_ _ | refine zD ?_ | refine zA ?_ _)); exact BK257.out) hb); have n3_ := qM (below_step (by repeat (first | (with_reducible first | exact HB.out | apply yA | apply yN | apply yD | refine yS ?_ GE256.out | refine yS ?_ GE257.out) | exact HB.out)) hb); clear BK256; clear BK257; clear HB; have HO260 := n0_; have BK256 := n1_; have BK257 := n2_; have HB := n3_; clear n0_ n1_ n2_ n3_; (try clear hb); (try clear hb2); (try clear hk); (try clear hi); (try clear ho0); obtain ⟨Ao9, co9, eo9⟩ := Kd.R_slice HO260.out; subst eo9; have hcz10_0 : w8.cell? ⟨gb256, 0, none⟩ = some (.int .i64 a0_0) := (zC BK256.out 0).trans rfl; have hcz10_1 : w8.cell? ⟨gb256, 1, none⟩ = some (.slice A0_1 l0_1.length c0_1) := (zC BK256.out 1).trans rfl; have hcz10_2 : w8.cell? ⟨gb256, 2, none⟩ = some (.slice A0_2 l0_2.length c0_2) := (zC BK256.out 2).trans rfl; have hcz10_3 : w8.cell? ⟨gb256, 3, none⟩ = some (.int .i64 a0_3) := (zC BK256.out 3).trans rfl; have hfz10_0 := zF BK256.out 0; have hfz10_1 := zF BK256.out 1; have hfz10_2 := zF BK256.out 2; have hfz10_3 := zF BK256.out 3) | ((with_reducible refine gate_callee (f := 82) rfl ?_); refine goesL_ (some 9) rfl rfl Try.func82 (by kernel_rfl) rfl #[.slice A0_2 l0_2.length c0_2] rfl (by (try simp only [List.map_toArray, List.map_cons, List.map_nil]); first | done | rfl | (simp only [List.length_drop, List.length_take]; rfl)) ?_; (with_reducible refine (impl_vmNumbers.calls _ _ l0_2 t261 _ ?side1 ?side2 A3.out).mono ?_); (case side1 => exact Kd.C_below HR0_2.out (by repeat (first | (with_reducible first | exact HB.out | apply yA | apply yN | apply yD | refine yS ?_ GE256.out | refine yS ?_ GE257.out) | exact HB.out))); (case side2 => exact HC0_2.out); rintro e w11 ⟨v262, rfl, ho0, hb⟩; refine ⟨_, rfl, ?_⟩; have n0_ := qM (Kd.R_elder' (by (with_reducible repeat (first | apply qA | apply qN | apply qD)); exact (Kd.R_mono (qF (p := ⟨gb256, 1, none⟩) (Kd.R_types HO260.out BK256.out (by decide)) (fun _ hk => hk.2) (.slice Ao9 t258.length co9)) (fun _ h_ => h_.1))) (Kd.R_base ho0) hb); have n1_ := qM (Kd.R_lower (Kd.R_new' ho0 (Kd.R_lt (by (with_reducible repeat (first | apply qA | apply qN | apply qD)); exact (Kd.R_mono (qF (p := ⟨gb256, 1, none⟩) (Kd.R_types HO260.out BK256.out (by decide)) (fun _ hk => hk.2) (.slice Ao9 t258.length co9)) (fun _ h_ => h_.1))))) (below_size (by repeat (first | (with_reducible first | exact HB.out | apply yA | apply yN | apply yD | refine yS ?_ GE256.out | refine yS ?_ GE257.out) | exact HB.out)))); have n2_ := qM (blk_below (g := gb256) (o := .cells #[.int .i64 a0_0, .slice Ao9 t258.length co9, .slice A0_2 l0_2.length c0_2, .int .i64 a0_3] 30 (0, 0)) (by (with_reducible repeat (first | refine zN ?_ _ | refine zD ?_ | refine zA ?_ _)); refine blk_put (cs := #[.int .i64 a0_0, .slice A0_1 l0_1.length c0_1, .slice A0_2 l0_2.length c0_2, .int .i64 a0_3]) ?_ 1 _ rfl; (with_reducible repeat (first | refine zN ?_ _ | refine zD ?_ | refine zA ?_ _)); exact BK256.out) hb); have n3_ := qM (blk_below (g := gb257) (o := .cells #[.int .i64 0, .slice none 0 0, .slice none 0 0, .int .i64 0] 30 (0, 0)) (by (with_reducible repeat (first | refine zN ?_ _ | refine zD ?_ | refine zA ?_ _)); refine blk_far ?_ NB257_256.out _; (with_reducible repeat (first | refine zN ?_ _ | refine zD ?_ | refine zA ?_ _)); exact BK257.out) hb); have n4_ := qM (below_step (by repeat (first | (with_reducible first | exact HB.out | apply yA | apply yN | apply yD | refine yS ?_ GE256.out | refine yS ?_ GE257.out) | exact HB.out)) hb); clear HO260; clear BK256; clear BK257; clear HB; have HO260 := n0_; have HO263 := n1_; have BK256 := n2_; have BK257 := n3_; have HB := n4_; clear n0_ n1_ n2_ n3_ n4_; (try clear hb); (try clear hb2); (try clear hk); (try clear hi); (try clear ho0); obtain ⟨Ao12, co12, eo12⟩ := Kd.R_slice HO263.out; subst eo12; have hcz13_0 : w11.cell? ⟨gb256, 0, none⟩ = some (.int .i64 a0_0) := (zC BK256.out 0).trans rfl; have hcz13_1 : w11.cell? ⟨gb256, 1, none⟩ = some (.slice Ao9 t258.length co9) := (zC BK256.out 1).trans rfl; have hcz13_2 : w11.cell? ⟨gb256, 2, none⟩ = some (.slice A0_2 l0_2.length c0_2) := (zC BK256.out 2).trans rfl; have hcz13_3 : w11.cell? ⟨gb256, 3, none⟩ = some (.int .i64 a0_3) := (zC BK256.out 3).trans rfl; have hfz13_0 := zF BK256.out 0; have hfz13_1 := zF BK256.out 1; have hfz13_2 := zF BK256.out 2; have hfz13_3 := zF BK256.out 3; have hcz14_0 : w11.cell? ⟨gb257, 0, none⟩ = some (.int .i64 0) := (zC BK257.out 0).trans rfl; have hcz14_1 : w11.cell? ⟨gb257, 1, none⟩ = some (.slice none 0 0) := (zC BK257.out 1).trans rfl; have hcz14_2 : w11.cell? ⟨gb257, 2, none⟩ = some (.slice none 0 0) := (zC BK257.out 2).trans rfl; have hcz14_3 : w11.cell? ⟨gb257, 3, none⟩ = some (.int .i64 0) := (zC BK257.out 3).trans rfl; have hfz14_0 := zF BK257.out 0; have hfz14_1 := zF BK257.out 1; have hfz14_2 := zF BK257.out 2; have hfz14_3 := zF BK257.out 3))
  refine bodyPost_ret (results_cell_row rfl _ _ gb257 30 #[.int .i64 a0_0, .slice Ao9 t258.length co9, .slice Ao12 t261.length co12, .int .i64 a0_3] (0, 0) _ rfl (by (with_reducible repeat (first | refine zN ?_ _ | refine zD ?_ | refine zA ?_ _)); refine blk_put (cs := #[.int .i64 a0_0, .slice Ao9 t258.length co9, .slice Ao12 t261.length co12, .int .i64 0]) ?_ 3 _ rfl; (with_reducible repeat (first | refine zN ?_ _ | refine zD ?_ | refine zA ?_ _)); refine blk_put (cs := #[.int .i64 a0_0, .slice Ao9 t258.length co9, .slice none 0 0, .int .i64 0]) ?_ 2 _ rfl; (with_reducible repeat (first | refine zN ?_ _ | refine zD ?_ | refine zA ?_ _)); refine blk_put (cs := #[.int .i64 a0_0, .slice none 0 0, .slice none 0 0, .int .i64 0]) ?_ 1 _ rfl; (with_reducible repeat (first | refine zN ?_ _ | refine zD ?_ | refine zA ?_ _)); refine blk_put (cs := #[.int .i64 0, .slice none 0 0, .slice none 0 0, .int .i64 0]) ?_ 0 _ rfl; (with_reducible repeat (first | refine zN ?_ _ | refine zD ?_ | refine zA ?_ _)); refine blk_far ?_ NB257_256.out _; (with_reducible repeat (first | refine zN ?_ _ | refine zD ?_ | refine zA ?_ _)); exact BK257.out) Try.underlying30 rfl (by kernel_rfl)) rfl ?_
  exact ⟨_, _, by first | rfl | (simp [errW_none, errW_some] <;> rfl) | (simp [*, errW_none, errW_some] <;> rfl), by (with_reducible repeat (first | apply qA | apply qN | apply qD)); exact Kd.R_mono (qF (p := ⟨gb257, 3, none⟩) (qF (p := ⟨gb257, 2, none⟩) (qF (p := ⟨gb257, 1, none⟩) (qF (p := ⟨gb257, 0, none⟩) (qF (p := ⟨gb256, 2, none⟩) (Kd.R_types (Kd.R_types HO260.out BK256.out (by decide)) BK257.out (by decide)) (fun _ hk => hk.1.2) (.slice Ao12 t261.length co12)) (fun _ hk => hk.2) (.int .i64 a0_0)) (fun _ hk => hk.2) (.slice Ao9 t258.length co9)) (fun _ hk => hk.2) (.slice Ao12 t261.length co12)) (fun _ hk => hk.2) (.int .i64 a0_3)) (fun _ hk => hk.1.1.2), by (with_reducible repeat (first | apply qA | apply qN | apply qD)); exact Kd.R_mono (qF (p := ⟨gb257, 3, none⟩) (qF (p := ⟨gb257, 2, none⟩) (qF (p := ⟨gb257, 1, none⟩) (qF (p := ⟨gb257, 0, none⟩) (qF (p := ⟨gb256, 2, none⟩) (Kd.R_types (Kd.R_types HO263.out BK256.out (by decide)) BK257.out (by decide)) (fun _ hk => hk.1.2) (.slice Ao12 t261.length co12)) (fun _ hk => hk.2) (.int .i64 a0_0)) (fun _ hk => hk.2) (.slice Ao9 t258.length co9)) (fun _ hk => hk.2) (.slice Ao12 t261.length co12)) (fun _ hk => hk.2) (.int .i64 a0_3)) (fun _ hk => hk.1.1.2), by repeat (first | (with_reducible first | exact HB.out | apply yA | apply yN | apply yD | refine yS ?_ GE256.out | refine yS ?_ GE257.out) | exact HB.out)⟩

/-! ### impl_bytCopy: function 83 -/
def impl_bytCopy.f (l0 : List Int) : Option (List Int) := if l0.length ≤ 281474976710656 then some l0 else none
theorem impl_bytCopy.calls (A0 : Option Addr) (c0 : Nat) (l0 : List Int) (r : List Int) (w : World) (hr0 : Kd.C (Kd.int .u8) w A0 l0.length l0) (hc0 : l0.length ≤ c0) (h : impl_bytCopy.f l0 = some r) :
    Calls Try.prog 83 #[.slice A0 l0.length c0] w fun e w' => ∃ v0_ : Value, e = .returned (v0_) ∧ Kd.R (Kd.int .u8) 5 w' w.heap.size (fun _ => True) v0_ r ∧ Below w.heap.size w w' := by
  exact Go.Proofs.YtcnipdbommmkmaaCopy.copy_any A0 c0 l0 r w hr0 hc0 h
end Go.Proofs.Ytcnipdbommmkmaa.PFnCelInputB
