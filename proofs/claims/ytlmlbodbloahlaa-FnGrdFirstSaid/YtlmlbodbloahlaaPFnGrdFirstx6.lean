/- Functions that a law reaches, each with the walk that shows what its call answers; laid by a program of this session. -/
import Derived.Test.YtlmlbodbloahlaaPFnGrdFirstx0
import Derived.Test.YtlmlbodbloahlaaPFnGrdFirstx1
import Derived.Test.YtlmlbodbloahlaaPFnGrdFirstx2
import Derived.Test.YtlmlbodbloahlaaPFnGrdFirstx5
namespace Go.Proofs.Ytlmlbodbloahlaa.PFnGrdFirst
open Go.RowKit Go.Proofs.YtlmlbodbloahlaaW.PrintWords Go.Proofs.YtlmlbodbloahlaaW.PrintLast Go.Proofs.YtlmlbodbloahlaaW.PrintMore
attribute [local go_sem] max2_int min2_int max_two min_two max_three min_three max_four min_four   -- for this text's walks alone
set_option linter.unusedVariables false
set_option linter.unusedSimpArgs false

open Go.Proofs.YtlmlbodbloahlaaAl
/-! ### laws_FnGrdFirst: function 7 -/
mutual
def laws_FnGrdFirst.j0 : Nat → List (S46) → List Int → List Int → Bool → Bool → Option (Bool)
 | 0, _, _, _, _, _ => none
 | k + 1, x3, x4, x5, x6, x40 => if x40 = true then (some false) else ((spec_GrdOk.f k x3).bind fun t339 => (if t339 = true then ((spec_BytMessage.f x4).bind fun t340 => (laws_FnGrdFirst.j1 k x3 x4 x5 x6 (!t340))) else (laws_FnGrdFirst.j1 k x3 x4 x5 x6 true)))
def laws_FnGrdFirst.j1 : Nat → List (S46) → List Int → List Int → Bool → Bool → Option (Bool)
 | 0, _, _, _, _, _ => none
 | k + 1, x3, x4, x5, x6, x48 => if x48 = true then (if x6 = true then (some false) else ((impl_GrdOk.f (([] : List (S46)))).bind fun t344 => (some t344))) else (laws_FnGrdFirst.l0 k x3 x4 x5 x6 0)
def laws_FnGrdFirst.l0 : Nat → List (S46) → List Int → List Int → Bool → Int → Option (Bool)
 | 0, _, _, _, _, _ => none
 | k + 1, x3, x4, x5, x6, x9 => if x9 < (x3.length : Int) then (if 0 ≤ x9 then ((impl_GrdFits.f ((rd_T46 x3 x9).f0) ((rd_T46 x3 x9).f1) ((rd_T46 x3 x9).f2) ((rd_T46 x3 x9).f3) ((rd_T46 x3 x9).f4) ((rd_T46 x3 x9).f5) ((rd_T46 x3 x9).f6) x4).bind fun t347 => (if t347 = true then ((impl_GrdDo.f (([(⟨(rd_T46 x3 x9).f0, (rd_T46 x3 x9).f1, (rd_T46 x3 x9).f2, (rd_T46 x3 x9).f3, (rd_T46 x3 x9).f4, (rd_T46 x3 x9).f5, (rd_T46 x3 x9).f6⟩ : S46)] : List (S46))) x4).bind fun bt352 => (if x6 = true then (if bt352.2 = true then ((laws_caBytes.f bt352.1 x5).bind fun t356 => (some t356)) else (some false)) else (some false))) else (laws_FnGrdFirst.l0 k x3 x4 x5 x6 (wrap64 (x9 + 1))))) else (none)) else (if x6 = true then (some false) else ((impl_GrdOk.f x3).bind fun t345 => (some t345)))
end
def laws_FnGrdFirst.f (k : Nat) (l0 : List Int) : Option (Bool) := if (l0.length : Int) > 1048576 then (some true) else ((spec_DrawGrdDo.f k l0).bind fun bt324 => ((impl_GrdDo.f bt324.1 bt324.2).bind fun bt330 => ((spec_GrdDo.f k bt324.1 bt324.2).bind fun bt334 => (if (bt330.2 != bt334.2) = true then (laws_FnGrdFirst.j0 k bt324.1 bt324.2 bt330.1 bt330.2 true) else ((laws_caBytes.f bt330.1 bt334.1).bind fun t338 => (laws_FnGrdFirst.j0 k bt324.1 bt324.2 bt330.1 bt330.2 (!t338)))))))
theorem laws_FnGrdFirst.mono_l : ∀ k, (∀ y0 y1 y2 y3 y4, LeO (laws_FnGrdFirst.j0 k y0 y1 y2 y3 y4) (laws_FnGrdFirst.j0 (k + 1) y0 y1 y2 y3 y4)) ∧ (∀ y0 y1 y2 y3 y4, LeO (laws_FnGrdFirst.j1 k y0 y1 y2 y3 y4) (laws_FnGrdFirst.j1 (k + 1) y0 y1 y2 y3 y4)) ∧ (∀ y0 y1 y2 y3 y4, LeO (laws_FnGrdFirst.l0 k y0 y1 y2 y3 y4) (laws_FnGrdFirst.l0 (k + 1) y0 y1 y2 y3 y4))
 | 0 => ⟨fun _ _ _ _ _ r h => by simp [laws_FnGrdFirst.j0] at h, fun _ _ _ _ _ r h => by simp [laws_FnGrdFirst.j1] at h, fun _ _ _ _ _ r h => by simp [laws_FnGrdFirst.l0] at h⟩
 | k + 1 => by
  obtain ⟨ih0, ih1, ih2⟩ := laws_FnGrdFirst.mono_l k
  refine ⟨?_, ?_, ?_⟩
  ·intro y0 y1 y2 y3 y4
   unfold laws_FnGrdFirst.j0
   repeat' first
   | (with_reducible exact ih0 _ _ _ _ _)
   | (with_reducible exact ih1 _ _ _ _ _)
   | (with_reducible exact ih2 _ _ _ _ _)
   | (with_reducible exact spec_DrawGrdDo.mono _ _)
   | (with_reducible exact spec_GrdDo.mono _ _ _)
   | (with_reducible exact spec_GrdOk.mono _ _)
   | (with_reducible exact LeO.refl _)
   | (with_reducible exact LeO.none _)
   | (with_reducible refine LeO.ite ?_ ?_)
   | (with_reducible refine LeO.bind ?_ (fun _ => ?_))
   | exact ih0 _ _ _ _ _
   | exact ih1 _ _ _ _ _
   | exact ih2 _ _ _ _ _
   | exact spec_DrawGrdDo.mono _ _
   | exact spec_GrdDo.mono _ _ _
   | exact spec_GrdOk.mono _ _
   | exact LeO.none _
   | refine LeO.ite ?_ ?_
   | refine LeO.bind ?_ (fun _ => ?_)
  ·intro y0 y1 y2 y3 y4
   unfold laws_FnGrdFirst.j1
   repeat' first
   | (with_reducible exact ih0 _ _ _ _ _)
   | (with_reducible exact ih1 _ _ _ _ _)
   | (with_reducible exact ih2 _ _ _ _ _)
   | (with_reducible exact spec_DrawGrdDo.mono _ _)
   | (with_reducible exact spec_GrdDo.mono _ _ _)
   | (with_reducible exact spec_GrdOk.mono _ _)
   | (with_reducible exact LeO.refl _)
   | (with_reducible exact LeO.none _)
   | (with_reducible refine LeO.ite ?_ ?_)
   | (with_reducible refine LeO.bind ?_ (fun _ => ?_))
   | exact ih0 _ _ _ _ _
   | exact ih1 _ _ _ _ _
   | exact ih2 _ _ _ _ _
   | exact spec_DrawGrdDo.mono _ _
   | exact spec_GrdDo.mono _ _ _
   | exact spec_GrdOk.mono _ _
   | exact LeO.none _
   | refine LeO.ite ?_ ?_
   | refine LeO.bind ?_ (fun _ => ?_)
  ·intro y0 y1 y2 y3 y4
   unfold laws_FnGrdFirst.l0
   repeat' first
   | (with_reducible exact ih0 _ _ _ _ _)
   | (with_reducible exact ih1 _ _ _ _ _)
   | (with_reducible exact ih2 _ _ _ _ _)
   | (with_reducible exact spec_DrawGrdDo.mono _ _)
   | (with_reducible exact spec_GrdDo.mono _ _ _)
   | (with_reducible exact spec_GrdOk.mono _ _)
   | (with_reducible exact LeO.refl _)
   | (with_reducible exact LeO.none _)
   | (with_reducible refine LeO.ite ?_ ?_)
   | (with_reducible refine LeO.bind ?_ (fun _ => ?_))
   | exact ih0 _ _ _ _ _
   | exact ih1 _ _ _ _ _
   | exact ih2 _ _ _ _ _
   | exact spec_DrawGrdDo.mono _ _
   | exact spec_GrdDo.mono _ _ _
   | exact spec_GrdOk.mono _ _
   | exact LeO.none _
   | refine LeO.ite ?_ ?_
   | refine LeO.bind ?_ (fun _ => ?_)
theorem laws_FnGrdFirst.mono : ∀ a0 k, LeO (laws_FnGrdFirst.f k a0) (laws_FnGrdFirst.f (k + 1) a0) := by
 intro a0 k
 obtain ⟨ih0, ih1, ih2⟩ := laws_FnGrdFirst.mono_l k
 unfold laws_FnGrdFirst.f
 repeat' first
   | (with_reducible exact ih0 _ _ _ _ _)
   | (with_reducible exact ih1 _ _ _ _ _)
   | (with_reducible exact ih2 _ _ _ _ _)
   | (with_reducible exact spec_DrawGrdDo.mono _ _)
   | (with_reducible exact spec_GrdDo.mono _ _ _)
   | (with_reducible exact spec_GrdOk.mono _ _)
   | (with_reducible exact LeO.refl _)
   | (with_reducible exact LeO.none _)
   | (with_reducible refine LeO.ite ?_ ?_)
   | (with_reducible refine LeO.bind ?_ (fun _ => ?_))
   | exact ih0 _ _ _ _ _
   | exact ih1 _ _ _ _ _
   | exact ih2 _ _ _ _ _
   | exact spec_DrawGrdDo.mono _ _
   | exact spec_GrdDo.mono _ _ _
   | exact spec_GrdOk.mono _ _
   | exact LeO.none _
   | refine LeO.ite ?_ ?_
   | refine LeO.bind ?_ (fun _ => ?_)
set_option maxHeartbeats 8000000 in
set_option maxRecDepth 100000 in
theorem laws_FnGrdFirst.calls (k : Nat) (A0 : Option Addr) (c0 : Nat) (l0 : List Int) (r : Bool) (w : World) (hr0 : Kd.C (Kd.int .u8) w A0 l0.length l0) (hc0 : l0.length ≤ c0) (h : laws_FnGrdFirst.f k l0 = some r) :
  Calls Try.prog 7 #[.slice A0 l0.length c0] w fun e w' => e = .returned (.bool r) ∧ Below w.heap.size w w' := by
 have hu46 := Try.underlying46
 have HR0 := qM hr0
 have HC0 := qM hc0
 clear hr0 hc0
 have HB := qM (Below.refl w.heap.size w)
 have H : (if (l0.length : Int) > 1048576 then (some true) else ((spec_DrawGrdDo.f k l0).bind fun bt324 => ((impl_GrdDo.f bt324.1 bt324.2).bind fun bt330 => ((spec_GrdDo.f k bt324.1 bt324.2).bind fun bt334 => (if (bt330.2 != bt334.2) = true then (laws_FnGrdFirst.j0 k bt324.1 bt324.2 bt330.1 bt330.2 true) else ((laws_caBytes.f bt330.1 bt334.1).bind fun t338 => (laws_FnGrdFirst.j0 k bt324.1 bt324.2 bt330.1 bt330.2 (!t338)))))))) = some r := h
 clear h
 by_cases c2 : (l0.length : Int) > 1048576
 ·rw [if_pos c2] at H
  have c2b0 : decide (1048576 < (l0.length : Int)) = true := decide_eq_true c2
  have c2b1 : decide (1048576 < l0.length) = true := decide_eq_true (by omega)
  clear c2
  obtain rfl := Option.some.inj H
  go_enter Try.func7, Try.ntmps7
  go_wp2
  go_ret
  exact ⟨by first | rfl | (simp [errW_none, errW_some] <;> rfl) | (simp [*, errW_none, errW_some] <;> rfl), by repeat (first | (with_reducible first | exact HB.out | apply yA | apply yN | apply yD) | exact HB.out)⟩
 ·rw [if_neg c2] at H
  have c2b0 : decide (1048576 < (l0.length : Int)) = false := decide_eq_false c2
  have c2b1 : decide (1048576 < l0.length) = false := decide_eq_false (by omega)
  clear c2
  replace H := Option.bind_eq_some_iff.mp H
  obtain ⟨⟨t324, t325⟩, A30, H⟩ := H
  replace H : ((impl_GrdDo.f t324 t325).bind fun bt330 => ((spec_GrdDo.f k t324 t325).bind fun bt334 => (if (bt330.2 != bt334.2) = true then (laws_FnGrdFirst.j0 k t324 t325 bt330.1 bt330.2 true) else ((laws_caBytes.f bt330.1 bt334.1).bind fun t338 => (laws_FnGrdFirst.j0 k t324 t325 bt330.1 bt330.2 (!t338)))))) = some r := H
  have A3 := qM A30
  clear A30
  replace H := Option.bind_eq_some_iff.mp H
  obtain ⟨⟨t330, t331⟩, A40, H⟩ := H
  replace H : ((spec_GrdDo.f k t324 t325).bind fun bt334 => (if (t331 != bt334.2) = true then (laws_FnGrdFirst.j0 k t324 t325 t330 t331 true) else ((laws_caBytes.f t330 bt334.1).bind fun t338 => (laws_FnGrdFirst.j0 k t324 t325 t330 t331 (!t338))))) = some r := H
  have A4 := qM A40
  clear A40
  replace H := Option.bind_eq_some_iff.mp H
  obtain ⟨⟨t334, t335⟩, A50, H⟩ := H
  replace H : (if (t331 != t335) = true then (laws_FnGrdFirst.j0 k t324 t325 t330 t331 true) else ((laws_caBytes.f t330 t334).bind fun t338 => (laws_FnGrdFirst.j0 k t324 t325 t330 t331 (!t338)))) = some r := H
  have A5 := qM A50
  clear A50
  have HC6 := qM H
  clear H
  go_enter Try.func7, Try.ntmps7
  go_upto_region 6 with (first | ((with_reducible refine gate_callee (f := 27) rfl ?_); refine goesL_ (some 17) rfl rfl Try.func27 (by kernel_rfl) rfl #[.slice A0 l0.length c0] rfl (by (try simp only [List.map_toArray, List.map_cons, List.map_nil]); first | done | rfl | (simp only [List.length_drop, List.length_take]; rfl)) ?_; (with_reducible refine (spec_DrawGrdDo.calls k _ _ l0 t324 t325 _ ?side1 ?side2 A3.out).mono ?_); (case side1 => repeat (first | exact HR0.out | (with_reducible refine Kd.C_alloc ?_ _) | (with_reducible refine Kd.C_drewN ?_ _) | (with_reducible refine Kd.C_drew ?_))); (case side2 => exact HC0.out); rintro e w7 ⟨v326, v328, rfl, ho0, ho1, hb⟩; refine ⟨_, rfl, ?_⟩; have n0_ := qM (Kd.R_lower ho0 (below_size (by repeat (first | (with_reducible first | exact HB.out | apply yA | apply yN | apply yD) | exact HB.out)))); have n1_ := qM (Kd.R_lower ho1 (below_size (by repeat (first | (with_reducible first | exact HB.out | apply yA | apply yN | apply yD) | exact HB.out)))); have n2_ := qM (below_step (by repeat (first | (with_reducible first | exact HB.out | apply yA | apply yN | apply yD) | exact HB.out)) hb); clear HB; have HO327 := n0_; have HO329 := n1_; have HB := n2_; clear n0_ n1_ n2_; (try clear hb); (try clear hb2); (try clear hk); (try clear hi); (try clear ho0); (try clear ho1); obtain ⟨Ao8, co8, eo8⟩ := Kd.R_slice HO327.out; subst eo8; obtain ⟨Ao9, co9, eo9⟩ := Kd.R_slice HO329.out; subst eo9) | ((with_reducible refine gate_callee (f := 24) rfl ?_); refine goesL_ (some 23) rfl rfl Try.func24 (by kernel_rfl) rfl #[.slice Ao8 t324.length co8, .slice Ao9 t325.length co9] rfl (by (try simp only [List.map_toArray, List.map_cons, List.map_nil]); first | done | rfl | (simp only [List.length_drop, List.length_take]; rfl)) ?_; (with_reducible refine (impl_GrdDo.calls _ _ t324 _ _ t325 t330 t331 _ ?side1 ?side2 ?side3 ?side4 A4.out).mono ?_); (case side1 => repeat (first | exact (qR HO327.out).2.2 | (with_reducible refine Kd.C_alloc ?_ _) | (with_reducible refine Kd.C_drewN ?_ _) | (with_reducible refine Kd.C_drew ?_))); (case side2 => exact (qR HO327.out).2.1); (case side3 => repeat (first | exact (qR HO329.out).2.2 | (with_reducible refine Kd.C_alloc ?_ _) | (with_reducible refine Kd.C_drewN ?_ _) | (with_reducible refine Kd.C_drew ?_))); (case side4 => exact (qR HO329.out).2.1); rintro e w10 ⟨v332, rfl, ho0, hb⟩; refine ⟨_, rfl, ?_⟩; have n0_ := qM (Kd.R_below (by (with_reducible repeat (first | apply qA | apply qN | apply qD)); exact HO327.out) hb); have n1_ := qM (Kd.R_elder' (by (with_reducible repeat (first | apply qA | apply qN | apply qD)); exact HO329.out) (Kd.R_base ho0) hb); have n2_ := qM (Kd.R_lower (Kd.R_new' ho0 (Kd.R_lt (by (with_reducible repeat (first | apply qA | apply qN | apply qD)); exact HO329.out))) (below_size (by repeat (first | (with_reducible first | exact HB.out | apply yA | apply yN | apply yD) | exact HB.out)))); have n3_ := qM (below_step (by repeat (first | (with_reducible first | exact HB.out | apply yA | apply yN | apply yD) | exact HB.out)) hb); clear HO327; clear HO329; clear HB; have HO327 := n0_; have HO329 := n1_; have HO333 := n2_; have HB := n3_; clear n0_ n1_ n2_ n3_; (try clear hb); (try clear hb2); (try clear hk); (try clear hi); (try clear ho0)) | ((with_reducible refine gate_callee (f := 22) rfl ?_); refine goesL_ (some 29) rfl rfl Try.func22 (by kernel_rfl) rfl #[.slice Ao8 t324.length co8, .slice Ao9 t325.length co9] rfl (by (try simp only [List.map_toArray, List.map_cons, List.map_nil]); first | done | rfl | (simp only [List.length_drop, List.length_take]; rfl)) ?_; (with_reducible refine (spec_GrdDo.calls k _ _ t324 _ _ t325 t334 t335 _ ?side1 ?side2 ?side3 ?side4 A5.out).mono ?_); (case side1 => repeat (first | exact (qR HO327.out).2.2 | (with_reducible refine Kd.C_alloc ?_ _) | (with_reducible refine Kd.C_drewN ?_ _) | (with_reducible refine Kd.C_drew ?_))); (case side2 => exact (qR HO327.out).2.1); (case side3 => repeat (first | exact (qR HO329.out).2.2 | (with_reducible refine Kd.C_alloc ?_ _) | (with_reducible refine Kd.C_drewN ?_ _) | (with_reducible refine Kd.C_drew ?_))); (case side4 => exact (qR HO329.out).2.1); rintro e w11 ⟨v336, rfl, ho0, hb⟩; refine ⟨_, rfl, ?_⟩; have n0_ := qM (Kd.R_below (by (with_reducible repeat (first | apply qA | apply qN | apply qD)); exact HO327.out) hb); have n1_ := qM (Kd.R_elder' (by (with_reducible repeat (first | apply qA | apply qN | apply qD)); exact HO329.out) (Kd.R_base ho0) hb); have n2_ := qM (Kd.R_elder' (by (with_reducible repeat (first | apply qA | apply qN | apply qD)); exact HO333.out) (Kd.R_base ho0) hb); have n3_ := qM (Kd.R_lower (Kd.R_new' (Kd.R_new' ho0 (Kd.R_lt (by (with_reducible repeat (first | apply qA | apply qN | apply qD)); exact HO329.out))) (Kd.R_lt (by (with_reducible repeat (first | apply qA | apply qN | apply qD)); exact HO333.out))) (below_size (by repeat (first | (with_reducible first | exact HB.out | apply yA | apply yN | apply yD) | exact HB.out)))); have n4_ := qM (below_step (by repeat (first | (with_reducible first | exact HB.out | apply yA | apply yN | apply yD) | exact HB.out)) hb); clear HO327; clear HO329; clear HO333; clear HB; have HO327 := n0_; have HO329 := n1_; have HO333 := n2_; have HO337 := n3_; have HB := n4_; clear n0_ n1_ n2_ n3_ n4_; (try clear hb); (try clear hb2); (try clear hk); (try clear hi); (try clear ho0)))
  (try simp only [Act.put, List.setIfInBounds_toArray, List.set_cons_zero, List.set_cons_succ])
  go_cut [40] (fun v40 wc => ∃ (kq : Nat) (x40_5 : Bool), v40 = .bool x40_5 ∧ Aside0 (laws_FnGrdFirst.j0 kq t324 t325 t330 t331 x40_5 = some r) ∧ Aside0 (kq ≤ k) ∧ Aside0 (Kd.R k46 46 wc w.heap.size (fun _ => True) (.slice Ao8 t324.length co8) t324) ∧ Aside0 (Kd.R (Kd.int .u8) 5 wc w.heap.size (fun k_ => some k_ ≠ (v332 : Value).ownBlock) (.slice Ao9 t325.length co9) t325) ∧ Aside0 (Kd.R (Kd.int .u8) 5 wc w.heap.size (fun k_ => some k_ ≠ ((.slice Ao9 t325.length co9) : Value).ownBlock) v332 t330) ∧ Aside0 (Below w.heap.size w wc))
  case first =>
   have H := HC6.out
   clear HC6
   by_cases c12 : (t331 != t335) = true
   ·rw [if_pos c12] at H
    have c12b0 : (t331 != t335) = true := c12
    (try (have c12b1 : decide (t331 = t335) = false := by simpa using c12))
    (try (have c12b2 : (t331 == t335) = false := by simpa using c12))
    (try (have c12b3 : ¬ (t331 = t335) := by simpa using c12))
    clear c12
    (first | rw [c12b0] | (simp only [i64_w, i32_w]; rw [c12b0]) | skip)
    have H' := qM H
    clear H
    go_wp2
    go_meet
    case rel => exact ⟨_, (true), (by first | rfl | (simp; done) | (simp [*]; done)), H', ⟨by first | omega | exact Nat.le_refl _⟩, ⟨by (with_reducible repeat (first | apply qA | apply qN | apply qD)); exact HO327.out⟩, ⟨by (with_reducible repeat (first | apply qA | apply qN | apply qD)); exact Kd.R_mono HO329.out (fun _ hk => hk.1.2)⟩, ⟨by (with_reducible repeat (first | apply qA | apply qN | apply qD)); exact Kd.R_mono HO333.out (fun _ hk => hk.1.2)⟩, ⟨by repeat (first | (with_reducible first | exact HB.out | apply yA | apply yN | apply yD) | exact HB.out)⟩⟩
   ·rw [if_neg c12] at H
    have c12b0 : (t331 != t335) = false := by simpa using c12
    (try (have c12b1 : decide (t331 = t335) = true := by simpa using c12))
    (try (have c12b2 : (t331 == t335) = true := by simpa using c12))
    clear c12
    (first | rw [c12b0] | (simp only [i64_w, i32_w]; rw [c12b0]) | skip)
    replace H := Option.bind_eq_some_iff.mp H
    obtain ⟨t338, A130, H⟩ := H
    replace H : (laws_FnGrdFirst.j0 k t324 t325 t330 t331 (!t338)) = some r := H
    have A13 := qM A130
    clear A130
    have H' := qM H
    clear H
    obtain ⟨Ao14, co14, eo14⟩ := Kd.R_slice HO333.out
    subst eo14
    obtain ⟨Ao15, co15, eo15⟩ := Kd.R_slice HO337.out
    subst eo15
    go_wp2_with (first | (go_at_call 20; (with_reducible refine (laws_caBytes.calls _ _ t330 _ _ t334 t338 _ ?side1 ?side2 ?side3 ?side4 A13.out).mono ?_); (case side1 => repeat (first | exact (qR HO333.out).2.2 | (with_reducible refine Kd.C_alloc ?_ _) | (with_reducible refine Kd.C_drewN ?_ _) | (with_reducible refine Kd.C_drew ?_))); (case side2 => exact (qR HO333.out).2.1); (case side3 => repeat (first | exact (qR HO337.out).2.2 | (with_reducible refine Kd.C_alloc ?_ _) | (with_reducible refine Kd.C_drewN ?_ _) | (with_reducible refine Kd.C_drew ?_))); (case side4 => exact (qR HO337.out).2.1); rintro e w' ⟨rfl, ⟨nd, rfl⟩⟩))
    go_meet
    case rel => exact ⟨_, (!t338), (by first | rfl | (simp; done) | (simp [*]; done)), H', ⟨by first | omega | exact Nat.le_refl _⟩, ⟨by (with_reducible repeat (first | apply qA | apply qN | apply qD)); exact HO327.out⟩, ⟨by (with_reducible repeat (first | apply qA | apply qN | apply qD)); exact Kd.R_mono HO329.out (fun _ hk => hk.1.2)⟩, ⟨by (with_reducible repeat (first | apply qA | apply qN | apply qD)); exact Kd.R_mono HO333.out (fun _ hk => hk.1.2)⟩, ⟨by repeat (first | (with_reducible first | exact HB.out | apply yA | apply yN | apply yD) | exact HB.out)⟩⟩
  case rest =>
   clear HC6
   try clear c1
   try clear c2
   try clear c2b0
   try clear c2b1
   try clear p2
   try clear c7
   try clear c12
   try clear c12b0
   try clear c12b1
   try clear c12b2
   obtain ⟨kq, x40_5, rfl, HA, HJ5, HO_3, HO_4, HO_5, HB⟩ := hcut
   cases kq with
   | zero => exact absurd HA.out (by simp [laws_FnGrdFirst.j0])
   | succ kj5 =>
    have H := HA.out
    clear HA
    simp only [laws_FnGrdFirst.j0] at H
    by_cases c16 : x40_5 = true
    ·subst c16
     have H1 : (some false) = some r := by rw [if_pos rfl] at H; exact H
     clear H
     have H := H1
     clear H1
     obtain rfl := Option.some.inj H
     go_wp2
     go_ret
     exact ⟨by first | rfl | (simp [errW_none, errW_some] <;> rfl) | (simp [*, errW_none, errW_some] <;> rfl), by repeat (first | (with_reducible first | exact HB.out | apply yA | apply yN | apply yD) | exact HB.out)⟩
    ·replace c16 := Bool.eq_false_iff.mpr c16
     subst c16
     have H1 : ((spec_GrdOk.f kj5 t324).bind fun t339 => (if t339 = true then ((spec_BytMessage.f t325).bind fun t340 => (laws_FnGrdFirst.j1 kj5 t324 t325 t330 t331 (!t340))) else (laws_FnGrdFirst.j1 kj5 t324 t325 t330 t331 true))) = some r := by rw [if_neg (show ¬ (false = true) by decide)] at H; exact H
     clear H
     have H := H1
     clear H1
     have HC17 := qM H
     clear H
     go_upto_region 8 with (fail)
     go_cut [48] (fun v48 wc => ∃ (kq : Nat) (x48_16 : Bool), v48 = .bool x48_16 ∧ Aside0 (laws_FnGrdFirst.j1 kq t324 t325 t330 t331 x48_16 = some r) ∧ Aside0 (kq ≤ kj5) ∧ Aside0 (Kd.R k46 46 wc w.heap.size (fun _ => True) (.slice Ao8 t324.length co8) t324) ∧ Aside0 (Kd.R (Kd.int .u8) 5 wc w.heap.size (fun k_ => some k_ ≠ (v332 : Value).ownBlock) (.slice Ao9 t325.length co9) t325) ∧ Aside0 (Kd.R (Kd.int .u8) 5 wc w.heap.size (fun k_ => some k_ ≠ ((.slice Ao9 t325.length co9) : Value).ownBlock) v332 t330) ∧ Aside0 (Below w.heap.size w wc))
     case first =>
      have H := HC17.out
      clear HC17
      replace H := Option.bind_eq_some_iff.mp H
      obtain ⟨t339, A180, H⟩ := H
      replace H : (if t339 = true then ((spec_BytMessage.f t325).bind fun t340 => (laws_FnGrdFirst.j1 kj5 t324 t325 t330 t331 (!t340))) else (laws_FnGrdFirst.j1 kj5 t324 t325 t330 t331 true)) = some r := H
      have A18 := qM A180
      clear A180
      by_cases c19 : t339 = true
      ·subst c19
       have H1 : ((spec_BytMessage.f t325).bind fun t340 => (laws_FnGrdFirst.j1 kj5 t324 t325 t330 t331 (!t340))) = some r := by rw [if_pos rfl] at H; exact H
       clear H
       have H := H1
       clear H1
       replace H := Option.bind_eq_some_iff.mp H
       obtain ⟨t340, A200, H⟩ := H
       replace H : (laws_FnGrdFirst.j1 kj5 t324 t325 t330 t331 (!t340)) = some r := H
       have A20 := qM A200
       clear A200
       have H' := qM H
       clear H
       go_wp2_with (first | ((with_reducible refine gate_callee (f := 28) rfl ?_); refine goesL_ (some 42) rfl rfl Try.func28 (by kernel_rfl) rfl #[.slice Ao8 t324.length co8] rfl (by (try simp only [List.map_toArray, List.map_cons, List.map_nil]); first | done | rfl | (simp only [List.length_drop, List.length_take]; rfl)) ?_; (with_reducible refine (spec_GrdOk.calls kj5 _ _ t324 true _ ?side1 ?side2 A18.out).mono ?_); (case side1 => repeat (first | exact (qR HO_3.out).2.2 | (with_reducible refine Kd.C_alloc ?_ _) | (with_reducible refine Kd.C_drewN ?_ _) | (with_reducible refine Kd.C_drew ?_))); (case side2 => exact (qR HO_3.out).2.1); rintro e w21 ⟨rfl, hb⟩; refine ⟨_, rfl, ?_⟩; have n0_ := qM (Kd.R_below (by (with_reducible repeat (first | apply qA | apply qN | apply qD)); exact HO_3.out) hb); have n1_ := qM (Kd.R_below (by (with_reducible repeat (first | apply qA | apply qN | apply qD)); exact HO_4.out) hb); have n2_ := qM (Kd.R_below (by (with_reducible repeat (first | apply qA | apply qN | apply qD)); exact HO_5.out) hb); have n3_ := qM (below_step (by repeat (first | (with_reducible first | exact HB.out | apply yA | apply yN | apply yD) | exact HB.out)) hb); clear HO_3; clear HO_4; clear HO_5; clear HB; have HO_3 := n0_; have HO_4 := n1_; have HO_5 := n2_; have HB := n3_; clear n0_ n1_ n2_ n3_; (try clear hb); (try clear hb2); (try clear hk); (try clear hi)) | (go_at_call 29; (with_reducible refine (spec_BytMessage.calls _ _ t325 t340 _ ?side1 ?side2 A20.out).mono ?_); (case side1 => repeat (first | exact (qR HO_4.out).2.2 | (with_reducible refine Kd.C_alloc ?_ _) | (with_reducible refine Kd.C_drewN ?_ _) | (with_reducible refine Kd.C_drew ?_))); (case side2 => exact (qR HO_4.out).2.1); rintro e w' ⟨rfl, ⟨nd, rfl⟩⟩))
       go_meet
       case rel => exact ⟨_, (!t340), (by first | rfl | (simp; done) | (simp [*]; done)), H', ⟨by have := HJ5.out; first | omega | exact Nat.le_refl _⟩, ⟨by (with_reducible repeat (first | apply qA | apply qN | apply qD)); exact HO_3.out⟩, ⟨by (with_reducible repeat (first | apply qA | apply qN | apply qD)); exact HO_4.out⟩, ⟨by (with_reducible repeat (first | apply qA | apply qN | apply qD)); exact HO_5.out⟩, ⟨by repeat (first | (with_reducible first | exact HB.out | apply yA | apply yN | apply yD) | exact HB.out)⟩⟩
      ·replace c19 := Bool.eq_false_iff.mpr c19
       subst c19
       have H1 : (laws_FnGrdFirst.j1 kj5 t324 t325 t330 t331 true) = some r := by rw [if_neg (show ¬ (false = true) by decide)] at H; exact H
       clear H
       have H := H1
       clear H1
       have H' := qM H
       clear H
       go_wp2_with (first | ((with_reducible refine gate_callee (f := 28) rfl ?_); refine goesL_ (some 42) rfl rfl Try.func28 (by kernel_rfl) rfl #[.slice Ao8 t324.length co8] rfl (by (try simp only [List.map_toArray, List.map_cons, List.map_nil]); first | done | rfl | (simp only [List.length_drop, List.length_take]; rfl)) ?_; (with_reducible refine (spec_GrdOk.calls kj5 _ _ t324 false _ ?side1 ?side2 A18.out).mono ?_); (case side1 => repeat (first | exact (qR HO_3.out).2.2 | (with_reducible refine Kd.C_alloc ?_ _) | (with_reducible refine Kd.C_drewN ?_ _) | (with_reducible refine Kd.C_drew ?_))); (case side2 => exact (qR HO_3.out).2.1); rintro e w22 ⟨rfl, hb⟩; refine ⟨_, rfl, ?_⟩; have n0_ := qM (Kd.R_below (by (with_reducible repeat (first | apply qA | apply qN | apply qD)); exact HO_3.out) hb); have n1_ := qM (Kd.R_below (by (with_reducible repeat (first | apply qA | apply qN | apply qD)); exact HO_4.out) hb); have n2_ := qM (Kd.R_below (by (with_reducible repeat (first | apply qA | apply qN | apply qD)); exact HO_5.out) hb); have n3_ := qM (below_step (by repeat (first | (with_reducible first | exact HB.out | apply yA | apply yN | apply yD) | exact HB.out)) hb); clear HO_3; clear HO_4; clear HO_5; clear HB; have HO_3 := n0_; have HO_4 := n1_; have HO_5 := n2_; have HB := n3_; clear n0_ n1_ n2_ n3_; (try clear hb); (try clear hb2); (try clear hk); (try clear hi)))
       go_meet
       case rel => exact ⟨_, (true), (by first | rfl | (simp; done) | (simp [*]; done)), H', ⟨by have := HJ5.out; first | omega | exact Nat.le_refl _⟩, ⟨by (with_reducible repeat (first | apply qA | apply qN | apply qD)); exact HO_3.out⟩, ⟨by (with_reducible repeat (first | apply qA | apply qN | apply qD)); exact HO_4.out⟩, ⟨by (with_reducible repeat (first | apply qA | apply qN | apply qD)); exact HO_5.out⟩, ⟨by repeat (first | (with_reducible first | exact HB.out | apply yA | apply yN | apply yD) | exact HB.out)⟩⟩
     case rest =>
      clear HC17
      try clear c1
      try clear c2
      try clear c2b0
      try clear c2b1
      try clear p2
      try clear c7
      try clear c12
      try clear c12b0
      try clear c12b1
      try clear c12b2
      try clear c16
      try clear c19
      try clear c22
      try clear p2
      obtain ⟨kq, x48_16, rfl, HA, HJ16, HO_3, HO_4, HO_5, HB⟩ := hcut
      cases kq with
      | zero => exact absurd HA.out (by simp [laws_FnGrdFirst.j1])
      | succ kj16 =>
       have H := HA.out
       clear HA
       simp only [laws_FnGrdFirst.j1] at H
       by_cases c23 : x48_16 = true
       ·subst c23
        have H1 : (if t331 = true then (some false) else ((impl_GrdOk.f (([] : List (S46)))).bind fun t344 => (some t344))) = some r := by rw [if_pos rfl] at H; exact H
        clear H
        have H := H1
        clear H1
        by_cases c24 : t331 = true
        ·subst c24
         have H1 : (some false) = some r := by rw [if_pos rfl] at H; exact H
         clear H
         have H := H1
         clear H1
         obtain rfl := Option.some.inj H
         go_wp2
         go_ret
         exact ⟨by first | rfl | (simp [errW_none, errW_some] <;> rfl) | (simp [*, errW_none, errW_some] <;> rfl), by repeat (first | (with_reducible first | exact HB.out | apply yA | apply yN | apply yD) | exact HB.out)⟩
        ·replace c24 := Bool.eq_false_iff.mpr c24
         subst c24
         have H1 : ((impl_GrdOk.f (([] : List (S46)))).bind fun t344 => (some t344)) = some r := by rw [if_neg (show ¬ (false = true) by decide)] at H; exact H
         clear H
         have H := H1
         clear H1
         obtain ⟨y341, hy341⟩ : ∃ y_ : List (S46), y_ = (([] : List (S46))) := ⟨_, rfl⟩
         replace H : ((impl_GrdOk.f y341).bind fun t344 => (some t344)) = some r := by first | (rw [hy341]; with_reducible exact H) | (have H2_ := (Option.bind_some _ _).symm.trans H; rw [hy341]; with_reducible exact H2_) | (have H2_ := (Option.bind_some _ _).symm.trans H; with_reducible exact H2_) | with_reducible exact H | (rw [hy341]; exact H) | exact H
         have Ny341 := qM hy341
         clear hy341
         replace H := Option.bind_eq_some_iff.mp H
         obtain ⟨t344, A250, H⟩ := H
         replace H : (some t344) = some r := H
         have A25 := qM A250
         clear A250
         obtain rfl := Option.some.inj H
         go_wp2_with (first | ((with_reducible refine gate_dst (N := 52) rfl ?_); (try (refine gate_guard (by rfl) ?_; dsimp only)); refine Kd.R_lit k46 _ 46 ?hg (N := 52) ?hd (xs := ([] : List (S46))) (inner := []) (ok := fun _ => True) (okp := fun _ => True) ?hr ?hp (fun _ hk => hk) trivial (Below.refl _ _) (Nat.le_refl _) (by simp) ?_; (case hd => rfl); (case hg => rfl); (case hr => first | (go_simp; done) | (go_simp; rfl)); (case hp => exact (Reps.none _ _)); intro v342 w26 ho27 hb hg_ hnew_; clear hg_ hnew_; (first | rw [← Ny341.out] at ho27 | (simp only [Int.reduceToNat] at ho27; rw [← Ny341.out] at ho27)); have n0_ := qM (Kd.R_elder' (by (with_reducible repeat (first | apply qA | apply qN | apply qD)); exact HO_3.out) (Kd.R_base ho27) hb); have n1_ := qM (Kd.R_below (by (with_reducible repeat (first | apply qA | apply qN | apply qD)); exact HO_4.out) hb); have n2_ := qM (Kd.R_below (by (with_reducible repeat (first | apply qA | apply qN | apply qD)); exact HO_5.out) hb); have n3_ := qM (Kd.R_lower (Kd.R_new' ho27 (Kd.R_lt (by (with_reducible repeat (first | apply qA | apply qN | apply qD)); exact HO_3.out))) (below_size (by repeat (first | (with_reducible first | exact HB.out | apply yA | apply yN | apply yD) | exact HB.out)))); have n4_ := qM (below_step (by repeat (first | (with_reducible first | exact HB.out | apply yA | apply yN | apply yD) | exact HB.out)) hb); clear HO_3; clear HO_4; clear HO_5; clear HB; have HO_3 := n0_; have HO_4 := n1_; have HO_5 := n2_; have HO343 := n3_; have HB := n4_; clear n0_ n1_ n2_ n3_ n4_; clear hb ho27; obtain ⟨Ao28, co28, eo28⟩ := Kd.R_slice HO343.out; subst eo28) | (go_at_call 30; (with_reducible refine (impl_GrdOk.calls _ _ y341 t344 _ ?side1 ?side2 A25.out).mono ?_); (case side1 => repeat (first | exact (qR HO343.out).2.2 | (with_reducible refine Kd.C_alloc ?_ _) | (with_reducible refine Kd.C_drewN ?_ _) | (with_reducible refine Kd.C_drew ?_))); (case side2 => exact (qR HO343.out).2.1); rintro e w29 ⟨rfl, hb⟩; have n0_ := qM (Kd.R_below (by (with_reducible repeat (first | apply qA | apply qN | apply qD)); exact HO_3.out) hb); have n1_ := qM (Kd.R_below (by (with_reducible repeat (first | apply qA | apply qN | apply qD)); exact HO_4.out) hb); have n2_ := qM (Kd.R_below (by (with_reducible repeat (first | apply qA | apply qN | apply qD)); exact HO_5.out) hb); have n3_ := qM (Kd.R_below (by (with_reducible repeat (first | apply qA | apply qN | apply qD)); exact HO343.out) hb); have n4_ := qM (below_step (by repeat (first | (with_reducible first | exact HB.out | apply yA | apply yN | apply yD) | exact HB.out)) hb); clear HO_3; clear HO_4; clear HO_5; clear HO343; clear HB; have HO_3 := n0_; have HO_4 := n1_; have HO_5 := n2_; have HO343 := n3_; have HB := n4_; clear n0_ n1_ n2_ n3_ n4_; (try clear hb); (try clear hb2); (try clear hk); (try clear hi)))
         go_ret
         exact ⟨by first | rfl | (simp [errW_none, errW_some] <;> rfl) | (simp [*, errW_none, errW_some] <;> rfl), by repeat (first | (with_reducible first | exact HB.out | apply yA | apply yN | apply yD) | exact HB.out)⟩
       ·replace c23 := Bool.eq_false_iff.mpr c23
        subst c23
        have H1 : (laws_FnGrdFirst.l0 kj16 t324 t325 t330 t331 0) = some r := by rw [if_neg (show ¬ (false = true) by decide)] at H; exact H
        clear H
        have H := H1
        clear H1
        have H' := qM H
        clear H
        go_wp2
        go_loopg [9] kj16 (fun kq v9 w' => ∃ (x9_3 : Int), v9 = .int .i64 x9_3 ∧ Aside0 (laws_FnGrdFirst.l0 kq t324 t325 t330 t331 x9_3 = some r) ∧ Aside0 (kq ≤ kj16) ∧ Aside0 (Kd.R k46 46 w' w.heap.size (fun _ => True) (.slice Ao8 t324.length co8) t324) ∧ Aside0 (Kd.R (Kd.int .u8) 5 w' w.heap.size (fun k_ => some k_ ≠ (v332 : Value).ownBlock) (.slice Ao9 t325.length co9) t325) ∧ Aside0 (Kd.R (Kd.int .u8) 5 w' w.heap.size (fun k_ => some k_ ≠ ((.slice Ao9 t325.length co9) : Value).ownBlock) v332 t330) ∧ Aside0 (Below w.heap.size w w'))
        case atStart => exact ⟨(0), (by first | rfl | (simp; done) | (simp [*]; done)), H', ⟨Nat.le_refl _⟩, ⟨by (with_reducible repeat (first | apply qA | apply qN | apply qD)); exact HO_3.out⟩, ⟨by (with_reducible repeat (first | apply qA | apply qN | apply qD)); exact HO_4.out⟩, ⟨by (with_reducible repeat (first | apply qA | apply qN | apply qD)); exact HO_5.out⟩, ⟨by repeat (first | (with_reducible first | exact HB.out | apply yA | apply yN | apply yD) | exact HB.out)⟩⟩
        case round =>
         clear H'
         try clear c1
         try clear c2
         try clear c2b0
         try clear c2b1
         try clear p2
         try clear c7
         try clear c12
         try clear c12b0
         try clear c12b1
         try clear c12b2
         try clear c16
         try clear c19
         try clear c22
         try clear c23
         try clear c24
         try clear c27
         try clear c28
         try clear p2
         obtain ⟨x9_3, rfl, HA, HK3, HO_3, HO_4, HO_5, HB⟩ := hrel
         cases gk with
         | zero => exact absurd HA.out (by simp [laws_FnGrdFirst.l0])
         | succ k3 =>
          have H := HA.out
          clear HA
          simp only [laws_FnGrdFirst.l0] at H
          by_cases c30 : x9_3 < (t324.length : Int)
          ·rw [if_pos c30] at H
           have c30b0 : decide (x9_3 < (t324.length : Int)) = true := decide_eq_true c30
           clear c30
           by_cases c31 : 0 ≤ x9_3
           ·rw [if_pos c31] at H
            have c31b0 : decide (0 ≤ x9_3) = true := decide_eq_true c31
            clear c31
            replace H := Option.bind_eq_some_iff.mp H
            obtain ⟨t347, A320, H⟩ := H
            replace H : (if t347 = true then ((impl_GrdDo.f (([(⟨(rd_T46 t324 x9_3).f0, (rd_T46 t324 x9_3).f1, (rd_T46 t324 x9_3).f2, (rd_T46 t324 x9_3).f3, (rd_T46 t324 x9_3).f4, (rd_T46 t324 x9_3).f5, (rd_T46 t324 x9_3).f6⟩ : S46)] : List (S46))) t325).bind fun bt352 => (if t331 = true then (if bt352.2 = true then ((laws_caBytes.f bt352.1 t330).bind fun t356 => (some t356)) else (some false)) else (some false))) else (laws_FnGrdFirst.l0 k3 t324 t325 t330 t331 (wrap64 (x9_3 + 1)))) = some r := H
            have A32 := qM A320
            clear A320
            by_cases c33 : t347 = true
            ·subst c33
             have H1 : ((impl_GrdDo.f (([(⟨(rd_T46 t324 x9_3).f0, (rd_T46 t324 x9_3).f1, (rd_T46 t324 x9_3).f2, (rd_T46 t324 x9_3).f3, (rd_T46 t324 x9_3).f4, (rd_T46 t324 x9_3).f5, (rd_T46 t324 x9_3).f6⟩ : S46)] : List (S46))) t325).bind fun bt352 => (if t331 = true then (if bt352.2 = true then ((laws_caBytes.f bt352.1 t330).bind fun t356 => (some t356)) else (some false)) else (some false))) = some r := by rw [if_pos rfl] at H; exact H
             clear H
             have H := H1
             clear H1
             obtain ⟨y349, hy349⟩ : ∃ y_ : List (S46), y_ = (([(⟨(rd_T46 t324 x9_3).f0, (rd_T46 t324 x9_3).f1, (rd_T46 t324 x9_3).f2, (rd_T46 t324 x9_3).f3, (rd_T46 t324 x9_3).f4, (rd_T46 t324 x9_3).f5, (rd_T46 t324 x9_3).f6⟩ : S46)] : List (S46))) := ⟨_, rfl⟩
             replace H : ((impl_GrdDo.f y349 t325).bind fun bt352 => (if t331 = true then (if bt352.2 = true then ((laws_caBytes.f bt352.1 t330).bind fun t356 => (some t356)) else (some false)) else (some false))) = some r := by first | (rw [hy349]; with_reducible exact H) | (have H2_ := (Option.bind_some _ _).symm.trans H; rw [hy349]; with_reducible exact H2_) | (have H2_ := (Option.bind_some _ _).symm.trans H; with_reducible exact H2_) | with_reducible exact H | (rw [hy349]; exact H) | exact H
             have Ny349 := qM hy349
             clear hy349
             replace H := Option.bind_eq_some_iff.mp H
             obtain ⟨⟨t352, t353⟩, A340, H⟩ := H
             replace H : (if t331 = true then (if t353 = true then ((laws_caBytes.f t352 t330).bind fun t356 => (some t356)) else (some false)) else (some false)) = some r := H
             have A34 := qM A340
             clear A340
             by_cases c35 : t331 = true
             ·subst c35
              have H1 : (if t353 = true then ((laws_caBytes.f t352 t330).bind fun t356 => (some t356)) else (some false)) = some r := by rw [if_pos rfl] at H; exact H
              clear H
              have H := H1
              clear H1
              by_cases c36 : t353 = true
              ·subst c36
               have H1 : ((laws_caBytes.f t352 t330).bind fun t356 => (some t356)) = some r := by rw [if_pos rfl] at H; exact H
               clear H
               have H := H1
               clear H1
               replace H := Option.bind_eq_some_iff.mp H
               obtain ⟨t356, A370, H⟩ := H
               replace H : (some t356) = some r := H
               have A37 := qM A370
               clear A370
               obtain rfl := Option.some.inj H
               have p346 : 0 ≤ (x9_3 : Int) := of_decide_eq_true (by first | (with_reducible assumption) | assumption)
               have q346 : x9_3 < (t324.length : Int) := of_decide_eq_true (by first | (with_reducible assumption) | assumption)
               obtain ⟨ad346, e346, hx346_0, hx346_1, hx346_2, hx346_3, hx346_4, hx346_5, hx346_6⟩ := at_T46 (qR HO_3.out).2.2 x9_3 p346 q346
               cases e346
               replace p346 := eq_true p346
               replace q346 := eq_true q346
               go_wp2_with (first | ((with_reducible refine gate_callee (f := 31) rfl ?_); refine goesL_ (some 66) rfl rfl Try.func31 (by kernel_rfl) rfl #[.agg #[.int .i64 ((rd_T46 t324 x9_3).f0), .int .i64 ((rd_T46 t324 x9_3).f1), .int .i64 ((rd_T46 t324 x9_3).f2), .int .i64 ((rd_T46 t324 x9_3).f3), .int .i64 ((rd_T46 t324 x9_3).f4), .int .i64 ((rd_T46 t324 x9_3).f5), .int .i64 ((rd_T46 t324 x9_3).f6)], .slice Ao9 t325.length co9] rfl (by (try simp only [List.map_toArray, List.map_cons, List.map_nil]); first | done | rfl | (simp only [List.length_drop, List.length_take]; rfl)) ?_; (with_reducible refine (impl_GrdFits.calls ((rd_T46 t324 x9_3).f0) ((rd_T46 t324 x9_3).f1) ((rd_T46 t324 x9_3).f2) ((rd_T46 t324 x9_3).f3) ((rd_T46 t324 x9_3).f4) ((rd_T46 t324 x9_3).f5) ((rd_T46 t324 x9_3).f6) _ _ t325 true _ ?side1 ?side2 A32.out).mono ?_); (case side1 => repeat (first | exact (qR HO_4.out).2.2 | (with_reducible refine Kd.C_alloc ?_ _) | (with_reducible refine Kd.C_drewN ?_ _) | (with_reducible refine Kd.C_drew ?_))); (case side2 => exact (qR HO_4.out).2.1); rintro e w38 ⟨rfl, hb⟩; refine ⟨_, rfl, ?_⟩; have n0_ := qM (Kd.R_below (by (with_reducible repeat (first | apply qA | apply qN | apply qD)); exact HO_3.out) hb); have n1_ := qM (Kd.R_below (by (with_reducible repeat (first | apply qA | apply qN | apply qD)); exact HO_4.out) hb); have n2_ := qM (Kd.R_below (by (with_reducible repeat (first | apply qA | apply qN | apply qD)); exact HO_5.out) hb); have n3_ := qM (below_step (by repeat (first | (with_reducible first | exact HB.out | apply yA | apply yN | apply yD) | exact HB.out)) hb); clear HO_3; clear HO_4; clear HO_5; clear HB; have HO_3 := n0_; have HO_4 := n1_; have HO_5 := n2_; have HB := n3_; clear n0_ n1_ n2_ n3_; (try clear hb); (try clear hb2); (try clear hk); (try clear hi); have p348 : 0 ≤ (x9_3 : Int) := of_decide_eq_true (by first | (with_reducible assumption) | assumption); have q348 : x9_3 < (t324.length : Int) := of_decide_eq_true (by first | (with_reducible assumption) | assumption); obtain ⟨ad348, e348, hx348_0, hx348_1, hx348_2, hx348_3, hx348_4, hx348_5, hx348_6⟩ := at_T46 (qR HO_3.out).2.2 x9_3 p348 q348; obtain rfl : ad346 = ad348 := (by injection e348); replace p348 := eq_true p348; replace q348 := eq_true q348) | ((with_reducible refine gate_dst (N := 72) rfl ?_); (try (refine gate_guard (by rfl) ?_; dsimp only)); refine Kd.R_lit k46 _ 46 ?hg (N := 72) ?hd (xs := ([(⟨(rd_T46 t324 x9_3).f0, (rd_T46 t324 x9_3).f1, (rd_T46 t324 x9_3).f2, (rd_T46 t324 x9_3).f3, (rd_T46 t324 x9_3).f4, (rd_T46 t324 x9_3).f5, (rd_T46 t324 x9_3).f6⟩ : S46)] : List (S46))) (inner := [.int .i64 ((rd_T46 t324 x9_3).f0), .int .i64 ((rd_T46 t324 x9_3).f1), .int .i64 ((rd_T46 t324 x9_3).f2), .int .i64 ((rd_T46 t324 x9_3).f3), .int .i64 ((rd_T46 t324 x9_3).f4), .int .i64 ((rd_T46 t324 x9_3).f5), .int .i64 ((rd_T46 t324 x9_3).f6)]) (ok := fun _ => True) (okp := fun _ => True) ?hr ?hp (fun _ hk => hk) trivial (Below.refl _ _) (Nat.le_refl _) (by simp) ?_; (case hd => rfl); (case hg => rfl); (case hr => first | (go_simp; done) | (go_simp; rfl)); (case hp => exact (Reps.c7 (show Kd.M k46 _ _ _ (⟨(rd_T46 t324 x9_3).f0, (rd_T46 t324 x9_3).f1, (rd_T46 t324 x9_3).f2, (rd_T46 t324 x9_3).f3, (rd_T46 t324 x9_3).f4, (rd_T46 t324 x9_3).f5, (rd_T46 t324 x9_3).f6⟩ : S46) [.int .i64 ((rd_T46 t324 x9_3).f0), .int .i64 ((rd_T46 t324 x9_3).f1), .int .i64 ((rd_T46 t324 x9_3).f2), .int .i64 ((rd_T46 t324 x9_3).f3), .int .i64 ((rd_T46 t324 x9_3).f4), .int .i64 ((rd_T46 t324 x9_3).f5), .int .i64 ((rd_T46 t324 x9_3).f6)] from (k46_mkM _ _ _ (⟨(rd_T46 t324 x9_3).f0, (rd_T46 t324 x9_3).f1, (rd_T46 t324 x9_3).f2, (rd_T46 t324 x9_3).f3, (rd_T46 t324 x9_3).f4, (rd_T46 t324 x9_3).f5, (rd_T46 t324 x9_3).f6⟩ : S46) )) (Reps.none _ _))); intro v350 w39 ho40 hb hg_ hnew_; clear hg_ hnew_; (first | rw [← Ny349.out] at ho40 | (simp only [Int.reduceToNat] at ho40; rw [← Ny349.out] at ho40)); have n0_ := qM (Kd.R_elder' (by (with_reducible repeat (first | apply qA | apply qN | apply qD)); exact HO_3.out) (Kd.R_base ho40) hb); have n1_ := qM (Kd.R_below (by (with_reducible repeat (first | apply qA | apply qN | apply qD)); exact HO_4.out) hb); have n2_ := qM (Kd.R_below (by (with_reducible repeat (first | apply qA | apply qN | apply qD)); exact HO_5.out) hb); have n3_ := qM (Kd.R_lower (Kd.R_new' ho40 (Kd.R_lt (by (with_reducible repeat (first | apply qA | apply qN | apply qD)); exact HO_3.out))) (below_size (by repeat (first | (with_reducible first | exact HB.out | apply yA | apply yN | apply yD) | exact HB.out)))); have n4_ := qM (below_step (by repeat (first | (with_reducible first | exact HB.out | apply yA | apply yN | apply yD) | exact HB.out)) hb); clear HO_3; clear HO_4; clear HO_5; clear HB; have HO_3 := n0_; have HO_4 := n1_; have HO_5 := n2_; have HO351 := n3_; have HB := n4_; clear n0_ n1_ n2_ n3_ n4_; clear hb ho40; obtain ⟨Ao41, co41, eo41⟩ := Kd.R_slice HO351.out; subst eo41) | ((with_reducible refine gate_callee (f := 24) rfl ?_); refine goesL_ (some 74) rfl rfl Try.func24 (by kernel_rfl) rfl #[.slice Ao41 y349.length co41, .slice Ao9 t325.length co9] rfl (by (try simp only [List.map_toArray, List.map_cons, List.map_nil]); first | done | rfl | (simp only [List.length_drop, List.length_take]; rfl)) ?_; (with_reducible refine (impl_GrdDo.calls _ _ y349 _ _ t325 t352 true _ ?side1 ?side2 ?side3 ?side4 A34.out).mono ?_); (case side1 => repeat (first | exact (qR HO351.out).2.2 | (with_reducible refine Kd.C_alloc ?_ _) | (with_reducible refine Kd.C_drewN ?_ _) | (with_reducible refine Kd.C_drew ?_))); (case side2 => exact (qR HO351.out).2.1); (case side3 => repeat (first | exact (qR HO_4.out).2.2 | (with_reducible refine Kd.C_alloc ?_ _) | (with_reducible refine Kd.C_drewN ?_ _) | (with_reducible refine Kd.C_drew ?_))); (case side4 => exact (qR HO_4.out).2.1); rintro e w42 ⟨v354, rfl, ho0, hb⟩; refine ⟨_, rfl, ?_⟩; have n0_ := qM (Kd.R_below (by (with_reducible repeat (first | apply qA | apply qN | apply qD)); exact HO_3.out) hb); have n1_ := qM (Kd.R_elder' (by (with_reducible repeat (first | apply qA | apply qN | apply qD)); exact HO_4.out) (Kd.R_base ho0) hb); have n2_ := qM (Kd.R_elder' (by (with_reducible repeat (first | apply qA | apply qN | apply qD)); exact HO_5.out) (Kd.R_base ho0) hb); have n3_ := qM (Kd.R_below (by (with_reducible repeat (first | apply qA | apply qN | apply qD)); exact HO351.out) hb); have n4_ := qM (Kd.R_lower (Kd.R_new' (Kd.R_new' ho0 (Kd.R_lt (by (with_reducible repeat (first | apply qA | apply qN | apply qD)); exact HO_4.out))) (Kd.R_lt (by (with_reducible repeat (first | apply qA | apply qN | apply qD)); exact HO_5.out))) (below_size (by repeat (first | (with_reducible first | exact HB.out | apply yA | apply yN | apply yD) | exact HB.out)))); have n5_ := qM (below_step (by repeat (first | (with_reducible first | exact HB.out | apply yA | apply yN | apply yD) | exact HB.out)) hb); clear HO_3; clear HO_4; clear HO_5; clear HO351; clear HB; have HO_3 := n0_; have HO_4 := n1_; have HO_5 := n2_; have HO351 := n3_; have HO355 := n4_; have HB := n5_; clear n0_ n1_ n2_ n3_ n4_ n5_; (try clear hb); (try clear hb2); (try clear hk); (try clear hi); (try clear ho0); obtain ⟨Ao43, co43, eo43⟩ := Kd.R_slice HO355.out; subst eo43; obtain ⟨Ao44, co44, eo44⟩ := Kd.R_slice HO_5.out; subst eo44) | (go_at_call 20; (with_reducible refine (laws_caBytes.calls _ _ t352 _ _ t330 t356 _ ?side1 ?side2 ?side3 ?side4 A37.out).mono ?_); (case side1 => repeat (first | exact (qR HO355.out).2.2 | (with_reducible refine Kd.C_alloc ?_ _) | (with_reducible refine Kd.C_drewN ?_ _) | (with_reducible refine Kd.C_drew ?_))); (case side2 => exact (qR HO355.out).2.1); (case side3 => repeat (first | exact (qR HO_5.out).2.2 | (with_reducible refine Kd.C_alloc ?_ _) | (with_reducible refine Kd.C_drewN ?_ _) | (with_reducible refine Kd.C_drew ?_))); (case side4 => exact (qR HO_5.out).2.1); rintro e w' ⟨rfl, ⟨nd, rfl⟩⟩))
               go_ret
               exact ⟨by first | rfl | (simp [errW_none, errW_some] <;> rfl) | (simp [*, errW_none, errW_some] <;> rfl), by repeat (first | (with_reducible first | exact HB.out | apply yA | apply yN | apply yD) | exact HB.out)⟩
              ·replace c36 := Bool.eq_false_iff.mpr c36
               subst c36
               have H1 : (some false) = some r := by rw [if_neg (show ¬ (false = true) by decide)] at H; exact H
               clear H
               have H := H1
               clear H1
               obtain rfl := Option.some.inj H
               have p346 : 0 ≤ (x9_3 : Int) := of_decide_eq_true (by first | (with_reducible assumption) | assumption)
               have q346 : x9_3 < (t324.length : Int) := of_decide_eq_true (by first | (with_reducible assumption) | assumption)
               obtain ⟨ad346, e346, hx346_0, hx346_1, hx346_2, hx346_3, hx346_4, hx346_5, hx346_6⟩ := at_T46 (qR HO_3.out).2.2 x9_3 p346 q346
               cases e346
               replace p346 := eq_true p346
               replace q346 := eq_true q346
               go_wp2_with (first | ((with_reducible refine gate_callee (f := 31) rfl ?_); refine goesL_ (some 66) rfl rfl Try.func31 (by kernel_rfl) rfl #[.agg #[.int .i64 ((rd_T46 t324 x9_3).f0), .int .i64 ((rd_T46 t324 x9_3).f1), .int .i64 ((rd_T46 t324 x9_3).f2), .int .i64 ((rd_T46 t324 x9_3).f3), .int .i64 ((rd_T46 t324 x9_3).f4), .int .i64 ((rd_T46 t324 x9_3).f5), .int .i64 ((rd_T46 t324 x9_3).f6)], .slice Ao9 t325.length co9] rfl (by (try simp only [List.map_toArray, List.map_cons, List.map_nil]); first | done | rfl | (simp only [List.length_drop, List.length_take]; rfl)) ?_; (with_reducible refine (impl_GrdFits.calls ((rd_T46 t324 x9_3).f0) ((rd_T46 t324 x9_3).f1) ((rd_T46 t324 x9_3).f2) ((rd_T46 t324 x9_3).f3) ((rd_T46 t324 x9_3).f4) ((rd_T46 t324 x9_3).f5) ((rd_T46 t324 x9_3).f6) _ _ t325 true _ ?side1 ?side2 A32.out).mono ?_); (case side1 => repeat (first | exact (qR HO_4.out).2.2 | (with_reducible refine Kd.C_alloc ?_ _) | (with_reducible refine Kd.C_drewN ?_ _) | (with_reducible refine Kd.C_drew ?_))); (case side2 => exact (qR HO_4.out).2.1); rintro e w45 ⟨rfl, hb⟩; refine ⟨_, rfl, ?_⟩; have n0_ := qM (Kd.R_below (by (with_reducible repeat (first | apply qA | apply qN | apply qD)); exact HO_3.out) hb); have n1_ := qM (Kd.R_below (by (with_reducible repeat (first | apply qA | apply qN | apply qD)); exact HO_4.out) hb); have n2_ := qM (Kd.R_below (by (with_reducible repeat (first | apply qA | apply qN | apply qD)); exact HO_5.out) hb); have n3_ := qM (below_step (by repeat (first | (with_reducible first | exact HB.out | apply yA | apply yN | apply yD) | exact HB.out)) hb); clear HO_3; clear HO_4; clear HO_5; clear HB; have HO_3 := n0_; have HO_4 := n1_; have HO_5 := n2_; have HB := n3_; clear n0_ n1_ n2_ n3_; (try clear hb); (try clear hb2); (try clear hk); (try clear hi); have p348 : 0 ≤ (x9_3 : Int) := of_decide_eq_true (by first | (with_reducible assumption) | assumption); have q348 : x9_3 < (t324.length : Int) := of_decide_eq_true (by first | (with_reducible assumption) | assumption); obtain ⟨ad348, e348, hx348_0, hx348_1, hx348_2, hx348_3, hx348_4, hx348_5, hx348_6⟩ := at_T46 (qR HO_3.out).2.2 x9_3 p348 q348; obtain rfl : ad346 = ad348 := (by injection e348); replace p348 := eq_true p348; replace q348 := eq_true q348) | ((with_reducible refine gate_dst (N := 72) rfl ?_); (try (refine gate_guard (by rfl) ?_; dsimp only)); refine Kd.R_lit k46 _ 46 ?hg (N := 72) ?hd (xs := ([(⟨(rd_T46 t324 x9_3).f0, (rd_T46 t324 x9_3).f1, (rd_T46 t324 x9_3).f2, (rd_T46 t324 x9_3).f3, (rd_T46 t324 x9_3).f4, (rd_T46 t324 x9_3).f5, (rd_T46 t324 x9_3).f6⟩ : S46)] : List (S46))) (inner := [.int .i64 ((rd_T46 t324 x9_3).f0), .int .i64 ((rd_T46 t324 x9_3).f1), .int .i64 ((rd_T46 t324 x9_3).f2), .int .i64 ((rd_T46 t324 x9_3).f3), .int .i64 ((rd_T46 t324 x9_3).f4), .int .i64 ((rd_T46 t324 x9_3).f5), .int .i64 ((rd_T46 t324 x9_3).f6)]) (ok := fun _ => True) (okp := fun _ => True) ?hr ?hp (fun _ hk => hk) trivial (Below.refl _ _) (Nat.le_refl _) (by simp) ?_; (case hd => rfl); (case hg => rfl); (case hr => first | (go_simp; done) | (go_simp; rfl)); (case hp => exact (Reps.c7 (show Kd.M k46 _ _ _ (⟨(rd_T46 t324 x9_3).f0, (rd_T46 t324 x9_3).f1, (rd_T46 t324 x9_3).f2, (rd_T46 t324 x9_3).f3, (rd_T46 t324 x9_3).f4, (rd_T46 t324 x9_3).f5, (rd_T46 t324 x9_3).f6⟩ : S46) [.int .i64 ((rd_T46 t324 x9_3).f0), .int .i64 ((rd_T46 t324 x9_3).f1), .int .i64 ((rd_T46 t324 x9_3).f2), .int .i64 ((rd_T46 t324 x9_3).f3), .int .i64 ((rd_T46 t324 x9_3).f4), .int .i64 ((rd_T46 t324 x9_3).f5), .int .i64 ((rd_T46 t324 x9_3).f6)] from (k46_mkM _ _ _ (⟨(rd_T46 t324 x9_3).f0, (rd_T46 t324 x9_3).f1, (rd_T46 t324 x9_3).f2, (rd_T46 t324 x9_3).f3, (rd_T46 t324 x9_3).f4, (rd_T46 t324 x9_3).f5, (rd_T46 t324 x9_3).f6⟩ : S46) )) (Reps.none _ _))); intro v350 w46 ho47 hb hg_ hnew_; clear hg_ hnew_; (first | rw [← Ny349.out] at ho47 | (simp only [Int.reduceToNat] at ho47; rw [← Ny349.out] at ho47)); have n0_ := qM (Kd.R_elder' (by (with_reducible repeat (first | apply qA | apply qN | apply qD)); exact HO_3.out) (Kd.R_base ho47) hb); have n1_ := qM (Kd.R_below (by (with_reducible repeat (first | apply qA | apply qN | apply qD)); exact HO_4.out) hb); have n2_ := qM (Kd.R_below (by (with_reducible repeat (first | apply qA | apply qN | apply qD)); exact HO_5.out) hb); have n3_ := qM (Kd.R_lower (Kd.R_new' ho47 (Kd.R_lt (by (with_reducible repeat (first | apply qA | apply qN | apply qD)); exact HO_3.out))) (below_size (by repeat (first | (with_reducible first | exact HB.out | apply yA | apply yN | apply yD) | exact HB.out)))); have n4_ := qM (below_step (by repeat (first | (with_reducible first | exact HB.out | apply yA | apply yN | apply yD) | exact HB.out)) hb); clear HO_3; clear HO_4; clear HO_5; clear HB; have HO_3 := n0_; have HO_4 := n1_; have HO_5 := n2_; have HO351 := n3_; have HB := n4_; clear n0_ n1_ n2_ n3_ n4_; clear hb ho47; obtain ⟨Ao48, co48, eo48⟩ := Kd.R_slice HO351.out; subst eo48) | ((with_reducible refine gate_callee (f := 24) rfl ?_); refine goesL_ (some 74) rfl rfl Try.func24 (by kernel_rfl) rfl #[.slice Ao48 y349.length co48, .slice Ao9 t325.length co9] rfl (by (try simp only [List.map_toArray, List.map_cons, List.map_nil]); first | done | rfl | (simp only [List.length_drop, List.length_take]; rfl)) ?_; (with_reducible refine (impl_GrdDo.calls _ _ y349 _ _ t325 t352 false _ ?side1 ?side2 ?side3 ?side4 A34.out).mono ?_); (case side1 => repeat (first | exact (qR HO351.out).2.2 | (with_reducible refine Kd.C_alloc ?_ _) | (with_reducible refine Kd.C_drewN ?_ _) | (with_reducible refine Kd.C_drew ?_))); (case side2 => exact (qR HO351.out).2.1); (case side3 => repeat (first | exact (qR HO_4.out).2.2 | (with_reducible refine Kd.C_alloc ?_ _) | (with_reducible refine Kd.C_drewN ?_ _) | (with_reducible refine Kd.C_drew ?_))); (case side4 => exact (qR HO_4.out).2.1); rintro e w49 ⟨v354, rfl, ho0, hb⟩; refine ⟨_, rfl, ?_⟩; have n0_ := qM (Kd.R_below (by (with_reducible repeat (first | apply qA | apply qN | apply qD)); exact HO_3.out) hb); have n1_ := qM (Kd.R_elder' (by (with_reducible repeat (first | apply qA | apply qN | apply qD)); exact HO_4.out) (Kd.R_base ho0) hb); have n2_ := qM (Kd.R_elder' (by (with_reducible repeat (first | apply qA | apply qN | apply qD)); exact HO_5.out) (Kd.R_base ho0) hb); have n3_ := qM (Kd.R_below (by (with_reducible repeat (first | apply qA | apply qN | apply qD)); exact HO351.out) hb); have n4_ := qM (Kd.R_lower (Kd.R_new' (Kd.R_new' ho0 (Kd.R_lt (by (with_reducible repeat (first | apply qA | apply qN | apply qD)); exact HO_4.out))) (Kd.R_lt (by (with_reducible repeat (first | apply qA | apply qN | apply qD)); exact HO_5.out))) (below_size (by repeat (first | (with_reducible first | exact HB.out | apply yA | apply yN | apply yD) | exact HB.out)))); have n5_ := qM (below_step (by repeat (first | (with_reducible first | exact HB.out | apply yA | apply yN | apply yD) | exact HB.out)) hb); clear HO_3; clear HO_4; clear HO_5; clear HO351; clear HB; have HO_3 := n0_; have HO_4 := n1_; have HO_5 := n2_; have HO351 := n3_; have HO355 := n4_; have HB := n5_; clear n0_ n1_ n2_ n3_ n4_ n5_; (try clear hb); (try clear hb2); (try clear hk); (try clear hi); (try clear ho0)))
               go_ret
               exact ⟨by first | rfl | (simp [errW_none, errW_some] <;> rfl) | (simp [*, errW_none, errW_some] <;> rfl), by repeat (first | (with_reducible first | exact HB.out | apply yA | apply yN | apply yD) | exact HB.out)⟩
             ·replace c35 := Bool.eq_false_iff.mpr c35
              subst c35
              have H1 : (some false) = some r := by rw [if_neg (show ¬ (false = true) by decide)] at H; exact H
              clear H
              have H := H1
              clear H1
              obtain rfl := Option.some.inj H
              have p346 : 0 ≤ (x9_3 : Int) := of_decide_eq_true (by first | (with_reducible assumption) | assumption)
              have q346 : x9_3 < (t324.length : Int) := of_decide_eq_true (by first | (with_reducible assumption) | assumption)
              obtain ⟨ad346, e346, hx346_0, hx346_1, hx346_2, hx346_3, hx346_4, hx346_5, hx346_6⟩ := at_T46 (qR HO_3.out).2.2 x9_3 p346 q346
              cases e346
              replace p346 := eq_true p346
              replace q346 := eq_true q346
              go_wp2_with (first | ((with_reducible refine gate_callee (f := 31) rfl ?_); refine goesL_ (some 66) rfl rfl Try.func31 (by kernel_rfl) rfl #[.agg #[.int .i64 ((rd_T46 t324 x9_3).f0), .int .i64 ((rd_T46 t324 x9_3).f1), .int .i64 ((rd_T46 t324 x9_3).f2), .int .i64 ((rd_T46 t324 x9_3).f3), .int .i64 ((rd_T46 t324 x9_3).f4), .int .i64 ((rd_T46 t324 x9_3).f5), .int .i64 ((rd_T46 t324 x9_3).f6)], .slice Ao9 t325.length co9] rfl (by (try simp only [List.map_toArray, List.map_cons, List.map_nil]); first | done | rfl | (simp only [List.length_drop, List.length_take]; rfl)) ?_; (with_reducible refine (impl_GrdFits.calls ((rd_T46 t324 x9_3).f0) ((rd_T46 t324 x9_3).f1) ((rd_T46 t324 x9_3).f2) ((rd_T46 t324 x9_3).f3) ((rd_T46 t324 x9_3).f4) ((rd_T46 t324 x9_3).f5) ((rd_T46 t324 x9_3).f6) _ _ t325 true _ ?side1 ?side2 A32.out).mono ?_); (case side1 => repeat (first | exact (qR HO_4.out).2.2 | (with_reducible refine Kd.C_alloc ?_ _) | (with_reducible refine Kd.C_drewN ?_ _) | (with_reducible refine Kd.C_drew ?_))); (case side2 => exact (qR HO_4.out).2.1); rintro e w50 ⟨rfl, hb⟩; refine ⟨_, rfl, ?_⟩; have n0_ := qM (Kd.R_below (by (with_reducible repeat (first | apply qA | apply qN | apply qD)); exact HO_3.out) hb); have n1_ := qM (Kd.R_below (by (with_reducible repeat (first | apply qA | apply qN | apply qD)); exact HO_4.out) hb); have n2_ := qM (Kd.R_below (by (with_reducible repeat (first | apply qA | apply qN | apply qD)); exact HO_5.out) hb); have n3_ := qM (below_step (by repeat (first | (with_reducible first | exact HB.out | apply yA | apply yN | apply yD) | exact HB.out)) hb); clear HO_3; clear HO_4; clear HO_5; clear HB; have HO_3 := n0_; have HO_4 := n1_; have HO_5 := n2_; have HB := n3_; clear n0_ n1_ n2_ n3_; (try clear hb); (try clear hb2); (try clear hk); (try clear hi); have p348 : 0 ≤ (x9_3 : Int) := of_decide_eq_true (by first | (with_reducible assumption) | assumption); have q348 : x9_3 < (t324.length : Int) := of_decide_eq_true (by first | (with_reducible assumption) | assumption); obtain ⟨ad348, e348, hx348_0, hx348_1, hx348_2, hx348_3, hx348_4, hx348_5, hx348_6⟩ := at_T46 (qR HO_3.out).2.2 x9_3 p348 q348; obtain rfl : ad346 = ad348 := (by injection e348); replace p348 := eq_true p348; replace q348 := eq_true q348) | ((with_reducible refine gate_dst (N := 72) rfl ?_); (try (refine gate_guard (by rfl) ?_; dsimp only)); refine Kd.R_lit k46 _ 46 ?hg (N := 72) ?hd (xs := ([(⟨(rd_T46 t324 x9_3).f0, (rd_T46 t324 x9_3).f1, (rd_T46 t324 x9_3).f2, (rd_T46 t324 x9_3).f3, (rd_T46 t324 x9_3).f4, (rd_T46 t324 x9_3).f5, (rd_T46 t324 x9_3).f6⟩ : S46)] : List (S46))) (inner := [.int .i64 ((rd_T46 t324 x9_3).f0), .int .i64 ((rd_T46 t324 x9_3).f1), .int .i64 ((rd_T46 t324 x9_3).f2), .int .i64 ((rd_T46 t324 x9_3).f3), .int .i64 ((rd_T46 t324 x9_3).f4), .int .i64 ((rd_T46 t324 x9_3).f5), .int .i64 ((rd_T46 t324 x9_3).f6)]) (ok := fun _ => True) (okp := fun _ => True) ?hr ?hp (fun _ hk => hk) trivial (Below.refl _ _) (Nat.le_refl _) (by simp) ?_; (case hd => rfl); (case hg => rfl); (case hr => first | (go_simp; done) | (go_simp; rfl)); (case hp => exact (Reps.c7 (show Kd.M k46 _ _ _ (⟨(rd_T46 t324 x9_3).f0, (rd_T46 t324 x9_3).f1, (rd_T46 t324 x9_3).f2, (rd_T46 t324 x9_3).f3, (rd_T46 t324 x9_3).f4, (rd_T46 t324 x9_3).f5, (rd_T46 t324 x9_3).f6⟩ : S46) [.int .i64 ((rd_T46 t324 x9_3).f0), .int .i64 ((rd_T46 t324 x9_3).f1), .int .i64 ((rd_T46 t324 x9_3).f2), .int .i64 ((rd_T46 t324 x9_3).f3), .int .i64 ((rd_T46 t324 x9_3).f4), .int .i64 ((rd_T46 t324 x9_3).f5), .int .i64 ((rd_T46 t324 x9_3).f6)] from (k46_mkM _ _ _ (⟨(rd_T46 t324 x9_3).f0, (rd_T46 t324 x9_3).f1, (rd_T46 t324 x9_3).f2, (rd_T46 t324 x9_3).f3, (rd_T46 t324 x9_3).f4, (rd_T46 t324 x9_3).f5, (rd_T46 t324 x9_3).f6⟩ : S46) )) (Reps.none _ _))); intro v350 w51 ho52 hb hg_ hnew_; clear hg_ hnew_; (first | rw [← Ny349.out] at ho52 | (simp only [Int.reduceToNat] at ho52; rw [← Ny349.out] at ho52)); have n0_ := qM (Kd.R_elder' (by (with_reducible repeat (first | apply qA | apply qN | apply qD)); exact HO_3.out) (Kd.R_base ho52) hb); have n1_ := qM (Kd.R_below (by (with_reducible repeat (first | apply qA | apply qN | apply qD)); exact HO_4.out) hb); have n2_ := qM (Kd.R_below (by (with_reducible repeat (first | apply qA | apply qN | apply qD)); exact HO_5.out) hb); have n3_ := qM (Kd.R_lower (Kd.R_new' ho52 (Kd.R_lt (by (with_reducible repeat (first | apply qA | apply qN | apply qD)); exact HO_3.out))) (below_size (by repeat (first | (with_reducible first | exact HB.out | apply yA | apply yN | apply yD) | exact HB.out)))); have n4_ := qM (below_step (by repeat (first | (with_reducible first | exact HB.out | apply yA | apply yN | apply yD) | exact HB.out)) hb); clear HO_3; clear HO_4; clear HO_5; clear HB; have HO_3 := n0_; have HO_4 := n1_; have HO_5 := n2_; have HO351 := n3_; have HB := n4_; clear n0_ n1_ n2_ n3_ n4_; clear hb ho52; obtain ⟨Ao53, co53, eo53⟩ := Kd.R_slice HO351.out; subst eo53) | ((with_reducible refine gate_callee (f := 24) rfl ?_); refine goesL_ (some 74) rfl rfl Try.func24 (by kernel_rfl) rfl #[.slice Ao53 y349.length co53, .slice Ao9 t325.length co9] rfl (by (try simp only [List.map_toArray, List.map_cons, List.map_nil]); first | done | rfl | (simp only [List.length_drop, List.length_take]; rfl)) ?_; (with_reducible refine (impl_GrdDo.calls _ _ y349 _ _ t325 t352 t353 _ ?side1 ?side2 ?side3 ?side4 A34.out).mono ?_); (case side1 => repeat (first | exact (qR HO351.out).2.2 | (with_reducible refine Kd.C_alloc ?_ _) | (with_reducible refine Kd.C_drewN ?_ _) | (with_reducible refine Kd.C_drew ?_))); (case side2 => exact (qR HO351.out).2.1); (case side3 => repeat (first | exact (qR HO_4.out).2.2 | (with_reducible refine Kd.C_alloc ?_ _) | (with_reducible refine Kd.C_drewN ?_ _) | (with_reducible refine Kd.C_drew ?_))); (case side4 => exact (qR HO_4.out).2.1); rintro e w54 ⟨v354, rfl, ho0, hb⟩; refine ⟨_, rfl, ?_⟩; have n0_ := qM (Kd.R_below (by (with_reducible repeat (first | apply qA | apply qN | apply qD)); exact HO_3.out) hb); have n1_ := qM (Kd.R_elder' (by (with_reducible repeat (first | apply qA | apply qN | apply qD)); exact HO_4.out) (Kd.R_base ho0) hb); have n2_ := qM (Kd.R_elder' (by (with_reducible repeat (first | apply qA | apply qN | apply qD)); exact HO_5.out) (Kd.R_base ho0) hb); have n3_ := qM (Kd.R_below (by (with_reducible repeat (first | apply qA | apply qN | apply qD)); exact HO351.out) hb); have n4_ := qM (Kd.R_lower (Kd.R_new' (Kd.R_new' ho0 (Kd.R_lt (by (with_reducible repeat (first | apply qA | apply qN | apply qD)); exact HO_4.out))) (Kd.R_lt (by (with_reducible repeat (first | apply qA | apply qN | apply qD)); exact HO_5.out))) (below_size (by repeat (first | (with_reducible first | exact HB.out | apply yA | apply yN | apply yD) | exact HB.out)))); have n5_ := qM (below_step (by repeat (first | (with_reducible first | exact HB.out | apply yA | apply yN | apply yD) | exact HB.out)) hb); clear HO_3; clear HO_4; clear HO_5; clear HO351; clear HB; have HO_3 := n0_; have HO_4 := n1_; have HO_5 := n2_; have HO351 := n3_; have HO355 := n4_; have HB := n5_; clear n0_ n1_ n2_ n3_ n4_ n5_; (try clear hb); (try clear hb2); (try clear hk); (try clear hi); (try clear ho0)))
              go_ret
              exact ⟨by first | rfl | (simp [errW_none, errW_some] <;> rfl) | (simp [*, errW_none, errW_some] <;> rfl), by repeat (first | (with_reducible first | exact HB.out | apply yA | apply yN | apply yD) | exact HB.out)⟩
            ·replace c33 := Bool.eq_false_iff.mpr c33
             subst c33
             have H1 : (laws_FnGrdFirst.l0 k3 t324 t325 t330 t331 (wrap64 (x9_3 + 1))) = some r := by rw [if_neg (show ¬ (false = true) by decide)] at H; exact H
             clear H
             have H := H1
             clear H1
             have H' := qM H
             clear H
             have p346 : 0 ≤ (x9_3 : Int) := of_decide_eq_true (by first | (with_reducible assumption) | assumption)
             have q346 : x9_3 < (t324.length : Int) := of_decide_eq_true (by first | (with_reducible assumption) | assumption)
             obtain ⟨ad346, e346, hx346_0, hx346_1, hx346_2, hx346_3, hx346_4, hx346_5, hx346_6⟩ := at_T46 (qR HO_3.out).2.2 x9_3 p346 q346
             cases e346
             replace p346 := eq_true p346
             replace q346 := eq_true q346
             go_wp2_with (first | ((with_reducible refine gate_callee (f := 31) rfl ?_); refine goesL_ (some 66) rfl rfl Try.func31 (by kernel_rfl) rfl #[.agg #[.int .i64 ((rd_T46 t324 x9_3).f0), .int .i64 ((rd_T46 t324 x9_3).f1), .int .i64 ((rd_T46 t324 x9_3).f2), .int .i64 ((rd_T46 t324 x9_3).f3), .int .i64 ((rd_T46 t324 x9_3).f4), .int .i64 ((rd_T46 t324 x9_3).f5), .int .i64 ((rd_T46 t324 x9_3).f6)], .slice Ao9 t325.length co9] rfl (by (try simp only [List.map_toArray, List.map_cons, List.map_nil]); first | done | rfl | (simp only [List.length_drop, List.length_take]; rfl)) ?_; (with_reducible refine (impl_GrdFits.calls ((rd_T46 t324 x9_3).f0) ((rd_T46 t324 x9_3).f1) ((rd_T46 t324 x9_3).f2) ((rd_T46 t324 x9_3).f3) ((rd_T46 t324 x9_3).f4) ((rd_T46 t324 x9_3).f5) ((rd_T46 t324 x9_3).f6) _ _ t325 false _ ?side1 ?side2 A32.out).mono ?_); (case side1 => repeat (first | exact (qR HO_4.out).2.2 | (with_reducible refine Kd.C_alloc ?_ _) | (with_reducible refine Kd.C_drewN ?_ _) | (with_reducible refine Kd.C_drew ?_))); (case side2 => exact (qR HO_4.out).2.1); rintro e w55 ⟨rfl, hb⟩; refine ⟨_, rfl, ?_⟩; have n0_ := qM (Kd.R_below (by (with_reducible repeat (first | apply qA | apply qN | apply qD)); exact HO_3.out) hb); have n1_ := qM (Kd.R_below (by (with_reducible repeat (first | apply qA | apply qN | apply qD)); exact HO_4.out) hb); have n2_ := qM (Kd.R_below (by (with_reducible repeat (first | apply qA | apply qN | apply qD)); exact HO_5.out) hb); have n3_ := qM (below_step (by repeat (first | (with_reducible first | exact HB.out | apply yA | apply yN | apply yD) | exact HB.out)) hb); clear HO_3; clear HO_4; clear HO_5; clear HB; have HO_3 := n0_; have HO_4 := n1_; have HO_5 := n2_; have HB := n3_; clear n0_ n1_ n2_ n3_; (try clear hb); (try clear hb2); (try clear hk); (try clear hi)))
             go_roundg k3
             case measure => have := HJ5.out; have := HJ16.out; have := HK3.out; omega
             case rel => exact ⟨(wrap64 (x9_3 + 1)), (by first | rfl | (simp; done) | (simp [*]; done)), H', ⟨by have := HJ5.out; have := HJ16.out; have := HK3.out; omega⟩, ⟨by (with_reducible repeat (first | apply qA | apply qN | apply qD)); exact HO_3.out⟩, ⟨by (with_reducible repeat (first | apply qA | apply qN | apply qD)); exact HO_4.out⟩, ⟨by (with_reducible repeat (first | apply qA | apply qN | apply qD)); exact HO_5.out⟩, ⟨by repeat (first | (with_reducible first | exact HB.out | apply yA | apply yN | apply yD) | exact HB.out)⟩⟩
           ·rw [if_neg c31] at H
            exact absurd H (by simp)
          ·rw [if_neg c30] at H
           have c30b0 : decide (x9_3 < (t324.length : Int)) = false := decide_eq_false c30
           clear c30
           by_cases c56 : t331 = true
           ·subst c56
            have H1 : (some false) = some r := by rw [if_pos rfl] at H; exact H
            clear H
            have H := H1
            clear H1
            obtain rfl := Option.some.inj H
            go_wp2
            go_ret
            exact ⟨by first | rfl | (simp [errW_none, errW_some] <;> rfl) | (simp [*, errW_none, errW_some] <;> rfl), by repeat (first | (with_reducible first | exact HB.out | apply yA | apply yN | apply yD) | exact HB.out)⟩
           ·replace c56 := Bool.eq_false_iff.mpr c56
            subst c56
            have H1 : ((impl_GrdOk.f t324).bind fun t345 => (some t345)) = some r := by rw [if_neg (show ¬ (false = true) by decide)] at H; exact H
            clear H
            have H := H1
            clear H1
            replace H := Option.bind_eq_some_iff.mp H
            obtain ⟨t345, A570, H⟩ := H
            replace H : (some t345) = some r := H
            have A57 := qM A570
            clear A570
            obtain rfl := Option.some.inj H
            go_wp2_with (first | (go_at_call 30; (with_reducible refine (impl_GrdOk.calls _ _ t324 t345 _ ?side1 ?side2 A57.out).mono ?_); (case side1 => repeat (first | exact (qR HO_3.out).2.2 | (with_reducible refine Kd.C_alloc ?_ _) | (with_reducible refine Kd.C_drewN ?_ _) | (with_reducible refine Kd.C_drew ?_))); (case side2 => exact (qR HO_3.out).2.1); rintro e w58 ⟨rfl, hb⟩; have n0_ := qM (Kd.R_below (by (with_reducible repeat (first | apply qA | apply qN | apply qD)); exact HO_3.out) hb); have n1_ := qM (Kd.R_below (by (with_reducible repeat (first | apply qA | apply qN | apply qD)); exact HO_4.out) hb); have n2_ := qM (Kd.R_below (by (with_reducible repeat (first | apply qA | apply qN | apply qD)); exact HO_5.out) hb); have n3_ := qM (below_step (by repeat (first | (with_reducible first | exact HB.out | apply yA | apply yN | apply yD) | exact HB.out)) hb); clear HO_3; clear HO_4; clear HO_5; clear HB; have HO_3 := n0_; have HO_4 := n1_; have HO_5 := n2_; have HB := n3_; clear n0_ n1_ n2_ n3_; (try clear hb); (try clear hb2); (try clear hk); (try clear hi)))
            go_ret
            exact ⟨by first | rfl | (simp [errW_none, errW_some] <;> rfl) | (simp [*, errW_none, errW_some] <;> rfl), by repeat (first | (with_reducible first | exact HB.out | apply yA | apply yN | apply yD) | exact HB.out)⟩

/-- THE ONE PURE STATEMENT of laws_FnGrdFirst. -/
def laws_FnGrdFirst.Pure : Prop := ∀ (l0 : List Int), l0.length ≤ maxLen → (∀ x ∈ l0, (Lit.int .u8 x).wf = true) → ∃ k, laws_FnGrdFirst.f k l0 = some true

end Go.Proofs.Ytlmlbodbloahlaa.PFnGrdFirst
