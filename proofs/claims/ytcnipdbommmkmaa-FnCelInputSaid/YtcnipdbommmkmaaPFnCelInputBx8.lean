/- Functions that a law reaches, each with the walk that shows what its call answers; laid by a program of this session. -/
import Derived.Test.YtcnipdbommmkmaaPFnCelInputBx0
import Derived.Test.YtcnipdbommmkmaaPFnCelInputBx1
import Derived.Test.YtcnipdbommmkmaaPFnCelInputBx5
import Derived.Test.YtcnipdbommmkmaaPFnCelInputBx6
import Derived.Test.YtcnipdbommmkmaaPFnCelInputBx7
namespace Go.Proofs.Ytcnipdbommmkmaa.PFnCelInputB
open Go.RowKit Go.Proofs.YtcnipdbommmkmaaW.PrintWords Go.Proofs.YtcnipdbommmkmaaW.PrintLast Go.Proofs.YtcnipdbommmkmaaW.PrintMore
attribute [local go_sem] max2_int min2_int max_two min_two max_three min_three max_four min_four   -- for this text's walks alone
set_option linter.unusedVariables false
set_option linter.unusedSimpArgs false

open Go.Proofs.YtcnipdbommmkmaaAl
/-! ### laws_FnCelInput: function 8 -/
mutual
def laws_FnCelInput.j0 : Nat → Int → Bool → Bool → Int → List Int → List Int → Int → List Int → Int → List Int → List Int → Int → List Int → Option (Bool)
  | 0, _, _, _, _, _, _, _, _, _, _, _, _, _ => none
  | k + 1, x4, x6, x37, x370000, x370001, x370002, x370003, x370004, x383000, x383001, x383002, x383003, x383004 => if x37 = true then (some false) else ((spec_CelOk.f k x370000 x370001 x370002 x370003 x370004).bind fun t397 => (if t397 = true then (if x4 < 0 then (laws_FnCelInput.j1 k x4 x6 true x370000 x370001 x370002 x370003 x370004 x383000 x383001 x383002 x383003 x383004) else (laws_FnCelInput.j1 k x4 x6 (decide (x4 > 255)) x370000 x370001 x370002 x370003 x370004 x383000 x383001 x383002 x383003 x383004)) else (laws_FnCelInput.j1 k x4 x6 true x370000 x370001 x370002 x370003 x370004 x383000 x383001 x383002 x383003 x383004)))
def laws_FnCelInput.j1 : Nat → Int → Bool → Bool → Int → List Int → List Int → Int → List Int → Int → List Int → List Int → Int → List Int → Option (Bool)
  | 0, _, _, _, _, _, _, _, _, _, _, _, _, _ => none
  | k + 1, x4, x6, x48, x370000, x370001, x370002, x370003, x370004, x383000, x383001, x383002, x383003, x383004 => if x48 = true then (if x6 = true then (some false) else ((impl_CelNew.f).bind fun bt398 => ((impl_CelOk.f bt398.1 bt398.2.1 bt398.2.2.1 bt398.2.2.2.1 bt398.2.2.2.2).bind fun t409 => (some t409)))) else (if x6 = true then ((laws_caState.f k x383000 x383001 x383002 x383003 x370000 x370001 x370002 x370003).bind fun t410 => (if t410 = true then ((some (([] : List Int) : List Int)).bind fun y411 => (if y411.length + x370004.length < 140737488355328 then ((some (y411 ++ x370004 : List Int)).bind fun y414 => ((some (([(x4) % 256] : List Int) : List Int)).bind fun y417 => (if y414.length + y417.length < 140737488355328 then ((laws_caBytes.f x383004 (y414 ++ y417)).bind fun t423 => (some t423)) else (none)))) else (none))) else (some false))) else ((laws_caCell.f k x383000 x383001 x383002 x383003 x383004 x370000 x370001 x370002 x370003 x370004).bind fun t424 => (if t424 = true then (some ((x370004.length : Int) == 6)) else (some false))))
end
def laws_FnCelInput.f (k : Nat) (l0 : List Int) : Option (Bool) := if (l0.length : Int) > 1048576 then (some true) else ((spec_DrawCelInput.f k l0).bind fun bt357 => ((impl_CelInput.f k bt357.1 bt357.2.1 bt357.2.2.1 bt357.2.2.2.1 bt357.2.2.2.2.1 bt357.2.2.2.2.2).bind fun bt370 => ((spec_CelInput.f k bt357.1 bt357.2.1 bt357.2.2.1 bt357.2.2.2.1 bt357.2.2.2.2.1 bt357.2.2.2.2.2).bind fun bt383 => (if (bt370.2.2.2.2.2 != bt383.2.2.2.2.2) = true then (laws_FnCelInput.j0 k bt357.2.2.2.2.2 bt370.2.2.2.2.2 true bt357.1 bt357.2.1 bt357.2.2.1 bt357.2.2.2.1 bt357.2.2.2.2.1 bt370.1 bt370.2.1 bt370.2.2.1 bt370.2.2.2.1 bt370.2.2.2.2.1) else ((laws_caCell.f k bt370.1 bt370.2.1 bt370.2.2.1 bt370.2.2.2.1 bt370.2.2.2.2.1 bt383.1 bt383.2.1 bt383.2.2.1 bt383.2.2.2.1 bt383.2.2.2.2.1).bind fun t396 => (laws_FnCelInput.j0 k bt357.2.2.2.2.2 bt370.2.2.2.2.2 (!t396) bt357.1 bt357.2.1 bt357.2.2.1 bt357.2.2.2.1 bt357.2.2.2.2.1 bt370.1 bt370.2.1 bt370.2.2.1 bt370.2.2.2.1 bt370.2.2.2.2.1))))))
theorem laws_FnCelInput.mono_l : ∀ k, (∀ y0 y1 y2 y3 y4 y5 y6 y7 y8 y9 y10 y11 y12, LeO (laws_FnCelInput.j0 k y0 y1 y2 y3 y4 y5 y6 y7 y8 y9 y10 y11 y12) (laws_FnCelInput.j0 (k + 1) y0 y1 y2 y3 y4 y5 y6 y7 y8 y9 y10 y11 y12)) ∧ (∀ y0 y1 y2 y3 y4 y5 y6 y7 y8 y9 y10 y11 y12, LeO (laws_FnCelInput.j1 k y0 y1 y2 y3 y4 y5 y6 y7 y8 y9 y10 y11 y12) (laws_FnCelInput.j1 (k + 1) y0 y1 y2 y3 y4 y5 y6 y7 y8 y9 y10 y11 y12))
  | 0 => ⟨fun _ _ _ _ _ _ _ _ _ _ _ _ _ r h => by simp [laws_FnCelInput.j0] at h, fun _ _ _ _ _ _ _ _ _ _ _ _ _ r h => by simp [laws_FnCelInput.j1] at h⟩
  | k + 1 => by
    obtain ⟨ih0, ih1⟩ := laws_FnCelInput.mono_l k
    refine ⟨?_, ?_⟩
    · intro y0 y1 y2 y3 y4 y5 y6 y7 y8 y9 y10 y11 y12
      unfold laws_FnCelInput.j0
      repeat' first
      | (with_reducible exact ih0 _ _ _ _ _ _ _ _ _ _ _ _ _)
      | (with_reducible exact ih1 _ _ _ _ _ _ _ _ _ _ _ _ _)
      | (with_reducible exact impl_CelInput.mono _ _ _ _ _ _ _)
      | (with_reducible exact laws_caCell.mono _ _ _ _ _ _ _ _ _ _ _)
      | (with_reducible exact laws_caState.mono _ _ _ _ _ _ _ _ _)
      | (with_reducible exact spec_CelInput.mono _ _ _ _ _ _ _)
      | (with_reducible exact spec_CelOk.mono _ _ _ _ _ _)
      | (with_reducible exact spec_DrawCelInput.mono _ _)
      | (with_reducible exact LeO.refl _)
      | (with_reducible exact LeO.none _)
      | (with_reducible refine LeO.ite ?_ ?_)
      | (with_reducible refine LeO.bind ?_ (fun _ => ?_))
      | exact ih0 _ _ _ _ _ _ _ _ _ _ _ _ _
      | exact ih1 _ _ _ _ _ _ _ _ _ _ _ _ _
      | exact impl_CelInput.mono _ _ _ _ _ _ _
      | exact laws_caCell.mono _ _ _ _ _ _ _ _ _ _ _
      | exact laws_caState.mono _ _ _ _ _ _ _ _ _
      | exact spec_CelInput.mono _ _ _ _ _ _ _
      | exact spec_CelOk.mono _ _ _ _ _ _
      | exact spec_DrawCelInput.mono _ _
      | exact LeO.none _
      | refine LeO.ite ?_ ?_
      | refine LeO.bind ?_ (fun _ => ?_)
    · intro y0 y1 y2 y3 y4 y5 y6 y7 y8 y9 y10 y11 y12
      unfold laws_FnCelInput.j1
      repeat' first
      | (with_reducible exact ih0 _ _ _ _ _ _ _ _ _ _ _ _ _)
      | (with_reducible exact ih1 _ _ _ _ _ _ _ _ _ _ _ _ _)
      | (with_reducible exact impl_CelInput.mono _ _ _ _ _ _ _)
      | (with_reducible exact laws_caCell.mono _ _ _ _ _ _ _ _ _ _ _)
      | (with_reducible exact laws_caState.mono _ _ _ _ _ _ _ _ _)
      | (with_reducible exact spec_CelInput.mono _ _ _ _ _ _ _)
      | (with_reducible exact spec_CelOk.mono _ _ _ _ _ _)
      | (with_reducible exact spec_DrawCelInput.mono _ _)
      | (with_reducible exact LeO.refl _)
      | (with_reducible exact LeO.none _)
      | (with_reducible refine LeO.ite ?_ ?_)
      | (with_reducible refine LeO.bind ?_ (fun _ => ?_))
      | exact ih0 _ _ _ _ _ _ _ _ _ _ _ _ _
      | exact ih1 _ _ _ _ _ _ _ _ _ _ _ _ _
      | exact impl_CelInput.mono _ _ _ _ _ _ _
      | exact laws_caCell.mono _ _ _ _ _ _ _ _ _ _ _
      | exact laws_caState.mono _ _ _ _ _ _ _ _ _
      | exact spec_CelInput.mono _ _ _ _ _ _ _
      | exact spec_CelOk.mono _ _ _ _ _ _
      | exact spec_DrawCelInput.mono _ _
      | exact LeO.none _
      | refine LeO.ite ?_ ?_
      | refine LeO.bind ?_ (fun _ => ?_)
theorem laws_FnCelInput.mono : ∀ a0 k, LeO (laws_FnCelInput.f k a0) (laws_FnCelInput.f (k + 1) a0) := by
  intro a0 k
  obtain ⟨ih0, ih1⟩ := laws_FnCelInput.mono_l k
  unfold laws_FnCelInput.f
  repeat' first
      | (with_reducible exact ih0 _ _ _ _ _ _ _ _ _ _ _ _ _)
      | (with_reducible exact ih1 _ _ _ _ _ _ _ _ _ _ _ _ _)
      | (with_reducible exact impl_CelInput.mono _ _ _ _ _ _ _)
      | (with_reducible exact laws_caCell.mono _ _ _ _ _ _ _ _ _ _ _)
      | (with_reducible exact laws_caState.mono _ _ _ _ _ _ _ _ _)
      | (with_reducible exact spec_CelInput.mono _ _ _ _ _ _ _)
      | (with_reducible exact spec_CelOk.mono _ _ _ _ _ _)
      | (with_reducible exact spec_DrawCelInput.mono _ _)
      | (with_reducible exact LeO.refl _)
      | (with_reducible exact LeO.none _)
      | (with_reducible refine LeO.ite ?_ ?_)
      | (with_reducible refine LeO.bind ?_ (fun _ => ?_))
      | exact ih0 _ _ _ _ _ _ _ _ _ _ _ _ _
      | exact ih1 _ _ _ _ _ _ _ _ _ _ _ _ _
      | exact impl_CelInput.mono _ _ _ _ _ _ _
      | exact laws_caCell.mono _ _ _ _ _ _ _ _ _ _ _
      | exact laws_caState.mono _ _ _ _ _ _ _ _ _
      | exact spec_CelInput.mono _ _ _ _ _ _ _
      | exact spec_CelOk.mono _ _ _ _ _ _
      | exact spec_DrawCelInput.mono _ _
      | exact LeO.none _
      | refine LeO.ite ?_ ?_
      | refine LeO.bind ?_ (fun _ => ?_)
def laws_FnCelInput.T12 : Bool × List (List Nat × List Nat) := (true, [([], []), ([0], [0]), ([], []), ([2], [2]), ([1, 3], [1, 3]), ([4, 4], [4]), ([5], [5]), ([6, 5], [5, 6]), ([5], [5]), ([5], [5]), ([9, 5], [5, 9]), ([8, 10, 5, 5], [5, 8, 10]), ([5], [5]), ([12, 5], [5, 12]), ([13, 5], [5, 13]), ([11, 14, 11, 5], [5, 11, 14]), ([7, 15, 15, 5], [5, 7, 15]), ([5, 16], [5, 16]), ([17, 16, 0, 1, 2, 3, 4, 5, 6, 7, 8, 9, 10, 11, 12, 13, 14, 15, 16, 17], [17])])
def laws_FnCelInput.B12 : List Nat := [0, 1, 0, 4, 15, 31, 63, 127, 63, 63, 575, 1855, 63, 4159, 12351, 32575, 65535, 131071, 262143]
theorem laws_FnCelInput.tab12 : rtab .any (opsOf Try.f8 12) = laws_FnCelInput.T12 := by kernel_rfl
theorem laws_FnCelInput.bits12 : waitsOk laws_FnCelInput.T12.2 laws_FnCelInput.B12 = true := by kernel_rfl
set_option maxHeartbeats 8000000 in
set_option maxRecDepth 100000 in
theorem laws_FnCelInput.calls (k : Nat) (A0 : Option Addr) (c0 : Nat) (l0 : List Int) (r : Bool) (w : World) (hr0 : Kd.C (Kd.int .u8) w A0 l0.length l0) (hc0 : l0.length ≤ c0) (h : laws_FnCelInput.f k l0 = some r) (hr_ : r = true := by rfl) :
    Calls Try.prog 8 #[.slice A0 l0.length c0] w fun e w' => e = .returned (.bool r) ∧ Below w.heap.size w w' := by
  have hu48 := Try.underlying48
  have hu30 := Try.underlying30
  have HR0 := qM hr0
  have HC0 := qM hc0
  clear hr0 hc0
  have HB := qM (Below.refl w.heap.size w)
  have H : (if (l0.length : Int) > 1048576 then (some true) else ((spec_DrawCelInput.f k l0).bind fun bt357 => ((impl_CelInput.f k bt357.1 bt357.2.1 bt357.2.2.1 bt357.2.2.2.1 bt357.2.2.2.2.1 bt357.2.2.2.2.2).bind fun bt370 => ((spec_CelInput.f k bt357.1 bt357.2.1 bt357.2.2.1 bt357.2.2.2.1 bt357.2.2.2.2.1 bt357.2.2.2.2.2).bind fun bt383 => (if (bt370.2.2.2.2.2 != bt383.2.2.2.2.2) = true then (laws_FnCelInput.j0 k bt357.2.2.2.2.2 bt370.2.2.2.2.2 true bt357.1 bt357.2.1 bt357.2.2.1 bt357.2.2.2.1 bt357.2.2.2.2.1 bt370.1 bt370.2.1 bt370.2.2.1 bt370.2.2.2.1 bt370.2.2.2.2.1) else ((laws_caCell.f k bt370.1 bt370.2.1 bt370.2.2.1 bt370.2.2.2.1 bt370.2.2.2.2.1 bt383.1 bt383.2.1 bt383.2.2.1 bt383.2.2.2.1 bt383.2.2.2.2.1).bind fun t396 => (laws_FnCelInput.j0 k bt357.2.2.2.2.2 bt370.2.2.2.2.2 (!t396) bt357.1 bt357.2.1 bt357.2.2.1 bt357.2.2.2.1 bt357.2.2.2.2.1 bt370.1 bt370.2.1 bt370.2.2.1 bt370.2.2.2.1 bt370.2.2.2.2.1))))))) = some r := h
  clear h
  by_cases c2 : (l0.length : Int) > 1048576
  · rw [if_pos c2] at H
    have c2b0 : decide (1048576 < (l0.length : Int)) = true := decide_eq_true c2
    have c2b1 : decide (1048576 < l0.length) = true := decide_eq_true (by omega)
    clear c2
    obtain rfl := Option.some.inj H
    go_enter Try.func8, Try.ntmps8
    go_wp2
    go_ret
    exact ⟨by first | rfl | (simp [errW_none, errW_some] <;> rfl) | (simp [*, errW_none, errW_some] <;> rfl), by repeat (first | (with_reducible first | exact HB.out | apply yA | apply yN | apply yD) | exact HB.out)⟩
  · rw [if_neg c2] at H
    have c2b0 : decide (1048576 < (l0.length : Int)) = false := decide_eq_false c2
    have c2b1 : decide (1048576 < l0.length) = false := decide_eq_false (by omega)
    clear c2
    replace H := Option.bind_eq_some_iff.mp H
    obtain ⟨⟨t357, t358, t361, t364, t365, t368⟩, A30, H⟩ := H
    replace H : ((impl_CelInput.f k t357 t358 t361 t364 t365 t368).bind fun bt370 => ((spec_CelInput.f k t357 t358 t361 t364 t365 t368).bind fun bt383 => (if (bt370.2.2.2.2.2 != bt383.2.2.2.2.2) = true then (laws_FnCelInput.j0 k t368 bt370.2.2.2.2.2 true t357 t358 t361 t364 t365 bt370.1 bt370.2.1 bt370.2.2.1 bt370.2.2.2.1 bt370.2.2.2.2.1) else ((laws_caCell.f k bt370.1 bt370.2.1 bt370.2.2.1 bt370.2.2.2.1 bt370.2.2.2.2.1 bt383.1 bt383.2.1 bt383.2.2.1 bt383.2.2.2.1 bt383.2.2.2.2.1).bind fun t396 => (laws_FnCelInput.j0 k t368 bt370.2.2.2.2.2 (!t396) t357 t358 t361 t364 t365 bt370.1 bt370.2.1 bt370.2.2.1 bt370.2.2.2.1 bt370.2.2.2.2.1))))) = some r := H
    have A3 := qM A30
    clear A30
    replace H := Option.bind_eq_some_iff.mp H
    obtain ⟨⟨t370, t371, t374, t377, t378, t381⟩, A40, H⟩ := H
    replace H : ((spec_CelInput.f k t357 t358 t361 t364 t365 t368).bind fun bt383 => (if (t381 != bt383.2.2.2.2.2) = true then (laws_FnCelInput.j0 k t368 t381 true t357 t358 t361 t364 t365 t370 t371 t374 t377 t378) else ((laws_caCell.f k t370 t371 t374 t377 t378 bt383.1 bt383.2.1 bt383.2.2.1 bt383.2.2.2.1 bt383.2.2.2.2.1).bind fun t396 => (laws_FnCelInput.j0 k t368 t381 (!t396) t357 t358 t361 t364 t365 t370 t371 t374 t377 t378)))) = some r := H
    have A4 := qM A40
    clear A40
    replace H := Option.bind_eq_some_iff.mp H
    obtain ⟨⟨t383, t384, t387, t390, t391, t394⟩, A50, H⟩ := H
    replace H : (if (t381 != t394) = true then (laws_FnCelInput.j0 k t368 t381 true t357 t358 t361 t364 t365 t370 t371 t374 t377 t378) else ((laws_caCell.f k t370 t371 t374 t377 t378 t383 t384 t387 t390 t391).bind fun t396 => (laws_FnCelInput.j0 k t368 t381 (!t396) t357 t358 t361 t364 t365 t370 t371 t374 t377 t378))) = some r := H
    have A5 := qM A50
    clear A50
    have HC6 := qM H
    clear H
    go_enter Try.func8, Try.ntmps8
    go_upto_region 6 with (first | ((with_reducible refine gate_callee (f := 38) rfl ?_); refine goesL_ (some 14) rfl rfl Try.func38 (by kernel_rfl) rfl #[.slice A0 l0.length c0] rfl (by (try simp only [List.map_toArray, List.map_cons, List.map_nil]); first | done | rfl | (simp only [List.length_drop, List.length_take]; rfl)) ?_; (with_reducible refine (spec_DrawCelInput.calls k _ _ l0 t357 t358 t361 t364 t365 t368 _ ?side1 ?side2 A3.out).mono ?_); (case side1 => repeat (first | exact HR0.out | (with_reducible refine Kd.C_alloc ?_ _) | (with_reducible refine Kd.C_drewN ?_ _) | (with_reducible refine Kd.C_drew ?_))); (case side2 => exact HC0.out); rintro e w7 ⟨v359, v362, v366, rfl, ho0, ho1, ho2, hb⟩; refine ⟨_, rfl, ?_⟩; have n0_ := qM (Kd.R_lower ho0 (below_size (by repeat (first | (with_reducible first | exact HB.out | apply yA | apply yN | apply yD) | exact HB.out)))); have n1_ := qM (Kd.R_lower ho1 (below_size (by repeat (first | (with_reducible first | exact HB.out | apply yA | apply yN | apply yD) | exact HB.out)))); have n2_ := qM (Kd.R_lower ho2 (below_size (by repeat (first | (with_reducible first | exact HB.out | apply yA | apply yN | apply yD) | exact HB.out)))); have n3_ := qM (below_step (by repeat (first | (with_reducible first | exact HB.out | apply yA | apply yN | apply yD) | exact HB.out)) hb); clear HB; have HO360 := n0_; have HO363 := n1_; have HO367 := n2_; have HB := n3_; clear n0_ n1_ n2_ n3_; (try clear hb); (try clear hb2); (try clear hk); (try clear hi); (try clear ho0); (try clear ho1); (try clear ho2)) | ((with_reducible refine gate_dst (N := 3) rfl ?_); (try (refine gate_guard (by rfl) ?_; dsimp only)); refine box_event ?hg (N := 3) ?hd (cs := #[.int .i64 0, .slice none 0 0, .slice none 0 0, .int .i64 0, .slice none 0 0]) (t := 48) ?hr ?_; (case hd => rfl); (case hg => rfl); (case hr => first | (go_simp; done) | (go_simp; rfl)); intro gb369 hg w8 hbox hb; have n0_ := qM (Kd.R_below (by (with_reducible repeat (first | apply qA | apply qN | apply qD)); exact HO360.out) hb); have n1_ := qM (Kd.R_below (by (with_reducible repeat (first | apply qA | apply qN | apply qD)); exact HO363.out) hb); have n2_ := qM (Kd.R_below (by (with_reducible repeat (first | apply qA | apply qN | apply qD)); exact HO367.out) hb); have n3_ := qM (below_step (by repeat (first | (with_reducible first | exact HB.out | apply yA | apply yN | apply yD) | exact HB.out)) hb); have n4_ := qM (hbox); have n5_ := qM ((by rw [hg]; exact (below_size (by repeat (first | (with_reducible first | exact HB.out | apply yA | apply yN | apply yD) | exact HB.out))) : w.heap.size ≤ gb369)); have n6_ := qM ((by rw [hg]; exact (below_size (by repeat (first | (with_reducible first | exact HB.out | apply yA | apply yN | apply yD) | exact HB.out))) : w.heap.size ≤ gb369)); clear HO360; clear HO363; clear HO367; clear HB; have HO360 := n0_; have HO363 := n1_; have HO367 := n2_; have HB := n3_; have BK369 := n4_; have GW369 := n5_; have GE369 := n6_; clear n0_ n1_ n2_ n3_ n4_ n5_ n6_; clear hb hbox hg; have hcz9_0 : w8.cell? ⟨gb369, 0, none⟩ = some (.int .i64 0) := (zC BK369.out 0).trans rfl; have hcz9_1 : w8.cell? ⟨gb369, 1, none⟩ = some (.slice none 0 0) := (zC BK369.out 1).trans rfl; have hcz9_2 : w8.cell? ⟨gb369, 2, none⟩ = some (.slice none 0 0) := (zC BK369.out 2).trans rfl; have hcz9_3 : w8.cell? ⟨gb369, 3, none⟩ = some (.int .i64 0) := (zC BK369.out 3).trans rfl; have hcz9_4 : w8.cell? ⟨gb369, 4, none⟩ = some (.slice none 0 0) := (zC BK369.out 4).trans rfl; have hfz9_0 := zF BK369.out 0; have hfz9_1 := zF BK369.out 1; have hfz9_2 := zF BK369.out 2; have hfz9_3 := zF BK369.out 3; have hfz9_4 := zF BK369.out 4; obtain ⟨Ao10, co10, eo10⟩ := Kd.R_slice HO360.out; subst eo10; obtain ⟨Ao11, co11, eo11⟩ := Kd.R_slice HO363.out; subst eo11; obtain ⟨Ao12, co12, eo12⟩ := Kd.R_slice HO367.out; subst eo12) | ((with_reducible refine gate_callee (f := 39) rfl ?_); refine goesL_ (some 20) rfl rfl Try.func39 (by kernel_rfl) rfl #[.agg #[.int .i64 t357, .slice Ao10 t358.length co10, .slice Ao11 t361.length co11, .int .i64 t364, .slice Ao12 t365.length co12], .int .i64 t368] rfl (by (try simp only [List.map_toArray, List.map_cons, List.map_nil]); first | done | rfl | (simp only [List.length_drop, List.length_take]; rfl)) ?_; (with_reducible refine (impl_CelInput.calls k t357 _ _ t358 _ _ t361 t364 _ _ t365 t368 t370 t371 t374 t377 t378 t381 _ ?side1 ?side2 ?side3 ?side4 ?side5 ?side6 A4.out).mono ?_); (case side1 => refine (qR (e := 3) (base := w.heap.size) (ok := fun k_ => some k_ ≠ (.slice Ao11 t361.length co11 : Value).ownBlock) (n := t358.length) (c := co10) ?_).2.2; exact (by (with_reducible repeat (first | apply qA | apply qN | apply qD)); exact (Kd.R_mono (qF (p := ⟨gb369, 4, none⟩) (qF (p := ⟨gb369, 3, none⟩) (qF (p := ⟨gb369, 2, none⟩) (qF (p := ⟨gb369, 1, none⟩) (qF (p := ⟨gb369, 0, none⟩) (Kd.R_types HO360.out BK369.out (by decide)) (fun _ hk => hk.2) (.int .i64 t357)) (fun _ hk => hk.2) (.slice Ao10 t358.length co10)) (fun _ hk => hk.2) (.slice Ao11 t361.length co11)) (fun _ hk => hk.2) (.int .i64 t364)) (fun _ hk => hk.2) (.slice Ao12 t365.length co12)) (fun _ h_ => h_.1)))); (case side2 => exact (qR HO360.out).2.1); (case side3 => refine (qR (e := 3) (base := w.heap.size) (ok := fun k_ => some k_ ≠ (.slice Ao10 t358.length co10 : Value).ownBlock) (n := t361.length) (c := co11) ?_).2.2; exact (by (with_reducible repeat (first | apply qA | apply qN | apply qD)); exact (Kd.R_mono (qF (p := ⟨gb369, 4, none⟩) (qF (p := ⟨gb369, 3, none⟩) (qF (p := ⟨gb369, 2, none⟩) (qF (p := ⟨gb369, 1, none⟩) (qF (p := ⟨gb369, 0, none⟩) (Kd.R_types HO363.out BK369.out (by decide)) (fun _ hk => hk.2) (.int .i64 t357)) (fun _ hk => hk.2) (.slice Ao10 t358.length co10)) (fun _ hk => hk.2) (.slice Ao11 t361.length co11)) (fun _ hk => hk.2) (.int .i64 t364)) (fun _ hk => hk.2) (.slice Ao12 t365.length co12)) (fun _ h_ => h_.1)))); (case side4 => exact (qR HO363.out).2.1); (case side5 => refine (qR (e := 5) (base := w.heap.size) (ok := fun k_ => True) (n := t365.length) (c := co12) ?_).2.2; exact (by (with_reducible repeat (first | apply qA | apply qN | apply qD)); exact (Kd.R_mono (qF (p := ⟨gb369, 4, none⟩) (qF (p := ⟨gb369, 3, none⟩) (qF (p := ⟨gb369, 2, none⟩) (qF (p := ⟨gb369, 1, none⟩) (qF (p := ⟨gb369, 0, none⟩) (Kd.R_types HO367.out BK369.out (by decide)) (fun _ hk => hk.2) (.int .i64 t357)) (fun _ hk => hk.2) (.slice Ao10 t358.length co10)) (fun _ hk => hk.2) (.slice Ao11 t361.length co11)) (fun _ hk => hk.2) (.int .i64 t364)) (fun _ hk => hk.2) (.slice Ao12 t365.length co12)) (fun _ h_ => h_.1)))); (case side6 => exact (qR HO367.out).2.1); rintro e w13 ⟨v372, v375, v379, rfl, ho0, ho1, ho2, hb⟩; refine ⟨_, rfl, ?_⟩; have n0_ := qM (Kd.R_mono (Kd.R_told (Kd.R_told (Kd.R_old (by (with_reducible repeat (first | apply qA | apply qN | apply qD)); exact (Kd.R_mono (qF (p := ⟨gb369, 4, none⟩) (qF (p := ⟨gb369, 3, none⟩) (qF (p := ⟨gb369, 2, none⟩) (qF (p := ⟨gb369, 1, none⟩) (qF (p := ⟨gb369, 0, none⟩) (Kd.R_types HO360.out BK369.out (by decide)) (fun _ hk => hk.2) (.int .i64 t357)) (fun _ hk => hk.2) (.slice Ao10 t358.length co10)) (fun _ hk => hk.2) (.slice Ao11 t361.length co11)) (fun _ hk => hk.2) (.int .i64 t364)) (fun _ hk => hk.2) (.slice Ao12 t365.length co12)) (fun _ h_ => h_.1))) hb) (Kd.R_base ho0)) (Kd.R_base ho1)) (fun _ h_ => h_.1)); have n1_ := qM (Kd.R_mono (Kd.R_told (Kd.R_told (Kd.R_old (by (with_reducible repeat (first | apply qA | apply qN | apply qD)); exact (Kd.R_mono (qF (p := ⟨gb369, 4, none⟩) (qF (p := ⟨gb369, 3, none⟩) (qF (p := ⟨gb369, 2, none⟩) (qF (p := ⟨gb369, 1, none⟩) (qF (p := ⟨gb369, 0, none⟩) (Kd.R_types HO363.out BK369.out (by decide)) (fun _ hk => hk.2) (.int .i64 t357)) (fun _ hk => hk.2) (.slice Ao10 t358.length co10)) (fun _ hk => hk.2) (.slice Ao11 t361.length co11)) (fun _ hk => hk.2) (.int .i64 t364)) (fun _ hk => hk.2) (.slice Ao12 t365.length co12)) (fun _ h_ => h_.1))) hb) (Kd.R_base ho0)) (Kd.R_base ho1)) (fun _ h_ => h_.1)); have n2_ := qM (Kd.R_elder' (by (with_reducible repeat (first | apply qA | apply qN | apply qD)); exact (Kd.R_mono (qF (p := ⟨gb369, 4, none⟩) (qF (p := ⟨gb369, 3, none⟩) (qF (p := ⟨gb369, 2, none⟩) (qF (p := ⟨gb369, 1, none⟩) (qF (p := ⟨gb369, 0, none⟩) (Kd.R_types HO367.out BK369.out (by decide)) (fun _ hk => hk.2) (.int .i64 t357)) (fun _ hk => hk.2) (.slice Ao10 t358.length co10)) (fun _ hk => hk.2) (.slice Ao11 t361.length co11)) (fun _ hk => hk.2) (.int .i64 t364)) (fun _ hk => hk.2) (.slice Ao12 t365.length co12)) (fun _ h_ => h_.1))) (Kd.R_base ho2) hb); have n3_ := qM (Kd.R_lower (Kd.R_new' (Kd.R_new' ho0 (Kd.R_lt (by (with_reducible repeat (first | apply qA | apply qN | apply qD)); exact (Kd.R_mono (qF (p := ⟨gb369, 4, none⟩) (qF (p := ⟨gb369, 3, none⟩) (qF (p := ⟨gb369, 2, none⟩) (qF (p := ⟨gb369, 1, none⟩) (qF (p := ⟨gb369, 0, none⟩) (Kd.R_types HO360.out BK369.out (by decide)) (fun _ hk => hk.2) (.int .i64 t357)) (fun _ hk => hk.2) (.slice Ao10 t358.length co10)) (fun _ hk => hk.2) (.slice Ao11 t361.length co11)) (fun _ hk => hk.2) (.int .i64 t364)) (fun _ hk => hk.2) (.slice Ao12 t365.length co12)) (fun _ h_ => h_.1))))) (Kd.R_lt (by (with_reducible repeat (first | apply qA | apply qN | apply qD)); exact (Kd.R_mono (qF (p := ⟨gb369, 4, none⟩) (qF (p := ⟨gb369, 3, none⟩) (qF (p := ⟨gb369, 2, none⟩) (qF (p := ⟨gb369, 1, none⟩) (qF (p := ⟨gb369, 0, none⟩) (Kd.R_types HO363.out BK369.out (by decide)) (fun _ hk => hk.2) (.int .i64 t357)) (fun _ hk => hk.2) (.slice Ao10 t358.length co10)) (fun _ hk => hk.2) (.slice Ao11 t361.length co11)) (fun _ hk => hk.2) (.int .i64 t364)) (fun _ hk => hk.2) (.slice Ao12 t365.length co12)) (fun _ h_ => h_.1))))) (below_size (by repeat (first | (with_reducible first | exact HB.out | apply yA | apply yN | apply yD | refine yS ?_ GE369.out) | exact HB.out)))); have n4_ := qM (Kd.R_lower (Kd.R_new' (Kd.R_new' ho1 (Kd.R_lt (by (with_reducible repeat (first | apply qA | apply qN | apply qD)); exact (Kd.R_mono (qF (p := ⟨gb369, 4, none⟩) (qF (p := ⟨gb369, 3, none⟩) (qF (p := ⟨gb369, 2, none⟩) (qF (p := ⟨gb369, 1, none⟩) (qF (p := ⟨gb369, 0, none⟩) (Kd.R_types HO360.out BK369.out (by decide)) (fun _ hk => hk.2) (.int .i64 t357)) (fun _ hk => hk.2) (.slice Ao10 t358.length co10)) (fun _ hk => hk.2) (.slice Ao11 t361.length co11)) (fun _ hk => hk.2) (.int .i64 t364)) (fun _ hk => hk.2) (.slice Ao12 t365.length co12)) (fun _ h_ => h_.1))))) (Kd.R_lt (by (with_reducible repeat (first | apply qA | apply qN | apply qD)); exact (Kd.R_mono (qF (p := ⟨gb369, 4, none⟩) (qF (p := ⟨gb369, 3, none⟩) (qF (p := ⟨gb369, 2, none⟩) (qF (p := ⟨gb369, 1, none⟩) (qF (p := ⟨gb369, 0, none⟩) (Kd.R_types HO363.out BK369.out (by decide)) (fun _ hk => hk.2) (.int .i64 t357)) (fun _ hk => hk.2) (.slice Ao10 t358.length co10)) (fun _ hk => hk.2) (.slice Ao11 t361.length co11)) (fun _ hk => hk.2) (.int .i64 t364)) (fun _ hk => hk.2) (.slice Ao12 t365.length co12)) (fun _ h_ => h_.1))))) (below_size (by repeat (first | (with_reducible first | exact HB.out | apply yA | apply yN | apply yD | refine yS ?_ GE369.out) | exact HB.out)))); have n5_ := qM (Kd.R_lower (Kd.R_new' ho2 (Kd.R_lt (by (with_reducible repeat (first | apply qA | apply qN | apply qD)); exact (Kd.R_mono (qF (p := ⟨gb369, 4, none⟩) (qF (p := ⟨gb369, 3, none⟩) (qF (p := ⟨gb369, 2, none⟩) (qF (p := ⟨gb369, 1, none⟩) (qF (p := ⟨gb369, 0, none⟩) (Kd.R_types HO367.out BK369.out (by decide)) (fun _ hk => hk.2) (.int .i64 t357)) (fun _ hk => hk.2) (.slice Ao10 t358.length co10)) (fun _ hk => hk.2) (.slice Ao11 t361.length co11)) (fun _ hk => hk.2) (.int .i64 t364)) (fun _ hk => hk.2) (.slice Ao12 t365.length co12)) (fun _ h_ => h_.1))))) (below_size (by repeat (first | (with_reducible first | exact HB.out | apply yA | apply yN | apply yD | refine yS ?_ GE369.out) | exact HB.out)))); have n6_ := qM (blk_below (g := gb369) (o := .cells #[.int .i64 t357, .slice Ao10 t358.length co10, .slice Ao11 t361.length co11, .int .i64 t364, .slice Ao12 t365.length co12] 48 (0, 0)) (by (with_reducible repeat (first | refine zN ?_ _ | refine zD ?_ | refine zA ?_ _)); refine blk_put (cs := #[.int .i64 t357, .slice Ao10 t358.length co10, .slice Ao11 t361.length co11, .int .i64 t364, .slice none 0 0]) ?_ 4 _ rfl; (with_reducible repeat (first | refine zN ?_ _ | refine zD ?_ | refine zA ?_ _)); refine blk_put (cs := #[.int .i64 t357, .slice Ao10 t358.length co10, .slice Ao11 t361.length co11, .int .i64 0, .slice none 0 0]) ?_ 3 _ rfl; (with_reducible repeat (first | refine zN ?_ _ | refine zD ?_ | refine zA ?_ _)); refine blk_put (cs := #[.int .i64 t357, .slice Ao10 t358.length co10, .slice none 0 0, .int .i64 0, .slice none 0 0]) ?_ 2 _ rfl; (with_reducible repeat (first | refine zN ?_ _ | refine zD ?_ | refine zA ?_ _)); refine blk_put (cs := #[.int .i64 t357, .slice none 0 0, .slice none 0 0, .int .i64 0, .slice none 0 0]) ?_ 1 _ rfl; (with_reducible repeat (first | refine zN ?_ _ | refine zD ?_ | refine zA ?_ _)); refine blk_put (cs := #[.int .i64 0, .slice none 0 0, .slice none 0 0, .int .i64 0, .slice none 0 0]) ?_ 0 _ rfl; (with_reducible repeat (first | refine zN ?_ _ | refine zD ?_ | refine zA ?_ _)); exact BK369.out) hb); have n7_ := qM (below_step (by repeat (first | (with_reducible first | exact HB.out | apply yA | apply yN | apply yD | refine yS ?_ GE369.out) | exact HB.out)) hb); clear HO360; clear HO363; clear HO367; clear BK369; clear HB; have HO360 := n0_; have HO363 := n1_; have HO367 := n2_; have HO373 := n3_; have HO376 := n4_; have HO380 := n5_; have BK369 := n6_; have HB := n7_; clear n0_ n1_ n2_ n3_ n4_ n5_ n6_ n7_; (try clear hb); (try clear hb2); (try clear hk); (try clear hi); (try clear ho0); (try clear ho1); (try clear ho2)) | ((with_reducible refine gate_dst (N := 5) rfl ?_); (try (refine gate_guard (by rfl) ?_; dsimp only)); refine box_event ?hg (N := 5) ?hd (cs := #[.int .i64 0, .slice none 0 0, .slice none 0 0, .int .i64 0, .slice none 0 0]) (t := 48) ?hr ?_; (case hd => rfl); (case hg => rfl); (case hr => first | (go_simp; done) | (go_simp; rfl)); intro gb382 hg w14 hbox hb; have n0_ := qM (Kd.R_below (by (with_reducible repeat (first | apply qA | apply qN | apply qD)); exact HO360.out) hb); have n1_ := qM (Kd.R_below (by (with_reducible repeat (first | apply qA | apply qN | apply qD)); exact HO363.out) hb); have n2_ := qM (Kd.R_below (by (with_reducible repeat (first | apply qA | apply qN | apply qD)); exact HO367.out) hb); have n3_ := qM (Kd.R_below (by (with_reducible repeat (first | apply qA | apply qN | apply qD)); exact HO373.out) hb); have n4_ := qM (Kd.R_below (by (with_reducible repeat (first | apply qA | apply qN | apply qD)); exact HO376.out) hb); have n5_ := qM (Kd.R_below (by (with_reducible repeat (first | apply qA | apply qN | apply qD)); exact HO380.out) hb); have n6_ := qM (blk_below (g := gb369) (o := .cells #[.int .i64 t357, .slice Ao10 t358.length co10, .slice Ao11 t361.length co11, .int .i64 t364, .slice Ao12 t365.length co12] 48 (0, 0)) (by (with_reducible repeat (first | refine zN ?_ _ | refine zD ?_ | refine zA ?_ _)); exact BK369.out) hb); have n7_ := qM (below_step (by repeat (first | (with_reducible first | exact HB.out | apply yA | apply yN | apply yD | refine yS ?_ GE369.out) | exact HB.out)) hb); have n8_ := qM (hbox); have n9_ := qM ((by rw [hg]; exact (below_size (by repeat (first | (with_reducible first | exact HB.out | apply yA | apply yN | apply yD | refine yS ?_ GE369.out) | exact HB.out))) : w.heap.size ≤ gb382)); have n10_ := qM ((by rw [hg]; exact (below_size (by repeat (first | (with_reducible first | exact HB.out | apply yA | apply yN | apply yD | refine yS ?_ GE369.out) | exact HB.out))) : w.heap.size ≤ gb382)); have n11_ := qM ((by rw [hg]; exact Nat.ne_of_lt (blk_lt (g := gb369) (o := .cells #[.int .i64 t357, .slice Ao10 t358.length co10, .slice Ao11 t361.length co11, .int .i64 t364, .slice Ao12 t365.length co12] 48 (0, 0)) (by (with_reducible repeat (first | refine zN ?_ _ | refine zD ?_ | refine zA ?_ _)); exact BK369.out)) : gb369 ≠ gb382)); have n12_ := qM ((by rw [hg]; exact Nat.ne_of_gt (blk_lt (g := gb369) (o := .cells #[.int .i64 t357, .slice Ao10 t358.length co10, .slice Ao11 t361.length co11, .int .i64 t364, .slice Ao12 t365.length co12] 48 (0, 0)) (by (with_reducible repeat (first | refine zN ?_ _ | refine zD ?_ | refine zA ?_ _)); exact BK369.out)) : gb382 ≠ gb369)); clear HO360; clear HO363; clear HO367; clear HO373; clear HO376; clear HO380; clear BK369; clear HB; have HO360 := n0_; have HO363 := n1_; have HO367 := n2_; have HO373 := n3_; have HO376 := n4_; have HO380 := n5_; have BK369 := n6_; have HB := n7_; have BK382 := n8_; have GW382 := n9_; have GE382 := n10_; have NB369_382 := n11_; have NB382_369 := n12_; clear n0_ n1_ n2_ n3_ n4_ n5_ n6_ n7_ n8_ n9_ n10_ n11_ n12_; clear hb hbox hg; have hnb15 := NB382_369.out; have hnc15 := NB369_382.out; have hcz16_0 : w14.cell? ⟨gb382, 0, none⟩ = some (.int .i64 0) := (zC BK382.out 0).trans rfl; have hcz16_1 : w14.cell? ⟨gb382, 1, none⟩ = some (.slice none 0 0) := (zC BK382.out 1).trans rfl; have hcz16_2 : w14.cell? ⟨gb382, 2, none⟩ = some (.slice none 0 0) := (zC BK382.out 2).trans rfl; have hcz16_3 : w14.cell? ⟨gb382, 3, none⟩ = some (.int .i64 0) := (zC BK382.out 3).trans rfl; have hcz16_4 : w14.cell? ⟨gb382, 4, none⟩ = some (.slice none 0 0) := (zC BK382.out 4).trans rfl; have hfz16_0 := zF BK382.out 0; have hfz16_1 := zF BK382.out 1; have hfz16_2 := zF BK382.out 2; have hfz16_3 := zF BK382.out 3; have hfz16_4 := zF BK382.out 4; obtain ⟨Ao17, co17, eo17⟩ := Kd.R_slice HO373.out; subst eo17; obtain ⟨Ao18, co18, eo18⟩ := Kd.R_slice HO376.out; subst eo18; obtain ⟨Ao19, co19, eo19⟩ := Kd.R_slice HO380.out; subst eo19; have hcz20_0 : w14.cell? ⟨gb369, 0, none⟩ = some (.int .i64 t357) := (zC BK369.out 0).trans rfl; have hcz20_1 : w14.cell? ⟨gb369, 1, none⟩ = some (.slice Ao10 t358.length co10) := (zC BK369.out 1).trans rfl; have hcz20_2 : w14.cell? ⟨gb369, 2, none⟩ = some (.slice Ao11 t361.length co11) := (zC BK369.out 2).trans rfl; have hcz20_3 : w14.cell? ⟨gb369, 3, none⟩ = some (.int .i64 t364) := (zC BK369.out 3).trans rfl; have hcz20_4 : w14.cell? ⟨gb369, 4, none⟩ = some (.slice Ao12 t365.length co12) := (zC BK369.out 4).trans rfl; have hfz20_0 := zF BK369.out 0; have hfz20_1 := zF BK369.out 1; have hfz20_2 := zF BK369.out 2; have hfz20_3 := zF BK369.out 3; have hfz20_4 := zF BK369.out 4) | ((with_reducible refine gate_callee (f := 40) rfl ?_); refine goesL_ (some 26) rfl rfl Try.func40 (by kernel_rfl) rfl #[.agg #[.int .i64 t357, .slice Ao10 t358.length co10, .slice Ao11 t361.length co11, .int .i64 t364, .slice Ao12 t365.length co12], .int .i64 t368] rfl (by (try simp only [List.map_toArray, List.map_cons, List.map_nil]); first | done | rfl | (simp only [List.length_drop, List.length_take]; rfl)) ?_; (with_reducible refine (spec_CelInput.calls k t357 _ _ t358 _ _ t361 t364 _ _ t365 t368 t383 t384 t387 t390 t391 t394 _ ?side1 ?side2 ?side3 ?side4 ?side5 ?side6 A5.out).mono ?_); (case side1 => refine (qR (e := 3) (base := w.heap.size) (ok := fun k_ => ((some k_ ≠ (.slice Ao11 t361.length co11 : Value).ownBlock ∧ some k_ ≠ (.slice Ao17 t371.length co17 : Value).ownBlock) ∧ some k_ ≠ (.slice Ao18 t374.length co18 : Value).ownBlock)) (n := t358.length) (c := co10) ?_).2.2; exact (by (with_reducible repeat (first | apply qA | apply qN | apply qD)); exact (Kd.R_mono (qF (p := ⟨gb382, 4, none⟩) (qF (p := ⟨gb382, 3, none⟩) (qF (p := ⟨gb382, 2, none⟩) (qF (p := ⟨gb382, 1, none⟩) (qF (p := ⟨gb382, 0, none⟩) (Kd.R_types HO360.out BK382.out (by decide)) (fun _ hk => hk.2) (.int .i64 t370)) (fun _ hk => hk.2) (.slice Ao17 t371.length co17)) (fun _ hk => hk.2) (.slice Ao18 t374.length co18)) (fun _ hk => hk.2) (.int .i64 t377)) (fun _ hk => hk.2) (.slice Ao19 t378.length co19)) (fun _ h_ => h_.1)))); (case side2 => exact (qR HO360.out).2.1); (case side3 => refine (qR (e := 3) (base := w.heap.size) (ok := fun k_ => ((some k_ ≠ (.slice Ao10 t358.length co10 : Value).ownBlock ∧ some k_ ≠ (.slice Ao17 t371.length co17 : Value).ownBlock) ∧ some k_ ≠ (.slice Ao18 t374.length co18 : Value).ownBlock)) (n := t361.length) (c := co11) ?_).2.2; exact (by (with_reducible repeat (first | apply qA | apply qN | apply qD)); exact (Kd.R_mono (qF (p := ⟨gb382, 4, none⟩) (qF (p := ⟨gb382, 3, none⟩) (qF (p := ⟨gb382, 2, none⟩) (qF (p := ⟨gb382, 1, none⟩) (qF (p := ⟨gb382, 0, none⟩) (Kd.R_types HO363.out BK382.out (by decide)) (fun _ hk => hk.2) (.int .i64 t370)) (fun _ hk => hk.2) (.slice Ao17 t371.length co17)) (fun _ hk => hk.2) (.slice Ao18 t374.length co18)) (fun _ hk => hk.2) (.int .i64 t377)) (fun _ hk => hk.2) (.slice Ao19 t378.length co19)) (fun _ h_ => h_.1)))); (case side4 => exact (qR HO363.out).2.1); (case side5 => refine (qR (e := 5) (base := w.heap.size) (ok := fun k_ => (True ∧ some k_ ≠ (.slice Ao19 t378.length co19 : Value).ownBlock)) (n := t365.length) (c := co12) ?_).2.2; exact (by (with_reducible repeat (first | apply qA | apply qN | apply qD)); exact (Kd.R_mono (qF (p := ⟨gb382, 4, none⟩) (qF (p := ⟨gb382, 3, none⟩) (qF (p := ⟨gb382, 2, none⟩) (qF (p := ⟨gb382, 1, none⟩) (qF (p := ⟨gb382, 0, none⟩) (Kd.R_types HO367.out BK382.out (by decide)) (fun _ hk => hk.2) (.int .i64 t370)) (fun _ hk => hk.2) (.slice Ao17 t371.length co17)) (fun _ hk => hk.2) (.slice Ao18 t374.length co18)) (fun _ hk => hk.2) (.int .i64 t377)) (fun _ hk => hk.2) (.slice Ao19 t378.length co19)) (fun _ h_ => h_.1)))); (case side6 => exact (qR HO367.out).2.1); rintro e w21 ⟨v385, v388, v392, rfl, ho0, ho1, ho2, hb⟩; refine ⟨_, rfl, ?_⟩; have n0_ := qM (Kd.R_mono (Kd.R_told (Kd.R_told (Kd.R_old (by (with_reducible repeat (first | apply qA | apply qN | apply qD)); exact (Kd.R_mono (qF (p := ⟨gb382, 4, none⟩) (qF (p := ⟨gb382, 3, none⟩) (qF (p := ⟨gb382, 2, none⟩) (qF (p := ⟨gb382, 1, none⟩) (qF (p := ⟨gb382, 0, none⟩) (Kd.R_types HO360.out BK382.out (by decide)) (fun _ hk => hk.2) (.int .i64 t370)) (fun _ hk => hk.2) (.slice Ao17 t371.length co17)) (fun _ hk => hk.2) (.slice Ao18 t374.length co18)) (fun _ hk => hk.2) (.int .i64 t377)) (fun _ hk => hk.2) (.slice Ao19 t378.length co19)) (fun _ h_ => h_.1))) hb) (Kd.R_base ho0)) (Kd.R_base ho1)) (fun _ h_ => h_.1)); have n1_ := qM (Kd.R_mono (Kd.R_told (Kd.R_told (Kd.R_old (by (with_reducible repeat (first | apply qA | apply qN | apply qD)); exact (Kd.R_mono (qF (p := ⟨gb382, 4, none⟩) (qF (p := ⟨gb382, 3, none⟩) (qF (p := ⟨gb382, 2, none⟩) (qF (p := ⟨gb382, 1, none⟩) (qF (p := ⟨gb382, 0, none⟩) (Kd.R_types HO363.out BK382.out (by decide)) (fun _ hk => hk.2) (.int .i64 t370)) (fun _ hk => hk.2) (.slice Ao17 t371.length co17)) (fun _ hk => hk.2) (.slice Ao18 t374.length co18)) (fun _ hk => hk.2) (.int .i64 t377)) (fun _ hk => hk.2) (.slice Ao19 t378.length co19)) (fun _ h_ => h_.1))) hb) (Kd.R_base ho0)) (Kd.R_base ho1)) (fun _ h_ => h_.1)); have n2_ := qM (Kd.R_elder' (by (with_reducible repeat (first | apply qA | apply qN | apply qD)); exact (Kd.R_mono (qF (p := ⟨gb382, 4, none⟩) (qF (p := ⟨gb382, 3, none⟩) (qF (p := ⟨gb382, 2, none⟩) (qF (p := ⟨gb382, 1, none⟩) (qF (p := ⟨gb382, 0, none⟩) (Kd.R_types HO367.out BK382.out (by decide)) (fun _ hk => hk.2) (.int .i64 t370)) (fun _ hk => hk.2) (.slice Ao17 t371.length co17)) (fun _ hk => hk.2) (.slice Ao18 t374.length co18)) (fun _ hk => hk.2) (.int .i64 t377)) (fun _ hk => hk.2) (.slice Ao19 t378.length co19)) (fun _ h_ => h_.1))) (Kd.R_base ho2) hb); have n3_ := qM (Kd.R_mono (Kd.R_told (Kd.R_told (Kd.R_old (by (with_reducible repeat (first | apply qA | apply qN | apply qD)); exact (Kd.R_mono (qF (p := ⟨gb382, 4, none⟩) (qF (p := ⟨gb382, 3, none⟩) (qF (p := ⟨gb382, 2, none⟩) (qF (p := ⟨gb382, 1, none⟩) (qF (p := ⟨gb382, 0, none⟩) (Kd.R_types HO373.out BK382.out (by decide)) (fun _ hk => hk.2) (.int .i64 t370)) (fun _ hk => hk.2) (.slice Ao17 t371.length co17)) (fun _ hk => hk.2) (.slice Ao18 t374.length co18)) (fun _ hk => hk.2) (.int .i64 t377)) (fun _ hk => hk.2) (.slice Ao19 t378.length co19)) (fun _ h_ => h_.1))) hb) (Kd.R_base ho0)) (Kd.R_base ho1)) (fun _ h_ => h_.1)); have n4_ := qM (Kd.R_mono (Kd.R_told (Kd.R_told (Kd.R_old (by (with_reducible repeat (first | apply qA | apply qN | apply qD)); exact (Kd.R_mono (qF (p := ⟨gb382, 4, none⟩) (qF (p := ⟨gb382, 3, none⟩) (qF (p := ⟨gb382, 2, none⟩) (qF (p := ⟨gb382, 1, none⟩) (qF (p := ⟨gb382, 0, none⟩) (Kd.R_types HO376.out BK382.out (by decide)) (fun _ hk => hk.2) (.int .i64 t370)) (fun _ hk => hk.2) (.slice Ao17 t371.length co17)) (fun _ hk => hk.2) (.slice Ao18 t374.length co18)) (fun _ hk => hk.2) (.int .i64 t377)) (fun _ hk => hk.2) (.slice Ao19 t378.length co19)) (fun _ h_ => h_.1))) hb) (Kd.R_base ho0)) (Kd.R_base ho1)) (fun _ h_ => h_.1)); have n5_ := qM (Kd.R_elder' (by (with_reducible repeat (first | apply qA | apply qN | apply qD)); exact (Kd.R_mono (qF (p := ⟨gb382, 4, none⟩) (qF (p := ⟨gb382, 3, none⟩) (qF (p := ⟨gb382, 2, none⟩) (qF (p := ⟨gb382, 1, none⟩) (qF (p := ⟨gb382, 0, none⟩) (Kd.R_types HO380.out BK382.out (by decide)) (fun _ hk => hk.2) (.int .i64 t370)) (fun _ hk => hk.2) (.slice Ao17 t371.length co17)) (fun _ hk => hk.2) (.slice Ao18 t374.length co18)) (fun _ hk => hk.2) (.int .i64 t377)) (fun _ hk => hk.2) (.slice Ao19 t378.length co19)) (fun _ h_ => h_.1))) (Kd.R_base ho2) hb); have n6_ := qM (Kd.R_lower (Kd.R_new' (Kd.R_new' (Kd.R_new' (Kd.R_new' ho0 (Kd.R_lt (by (with_reducible repeat (first | apply qA | apply qN | apply qD)); exact (Kd.R_mono (qF (p := ⟨gb382, 4, none⟩) (qF (p := ⟨gb382, 3, none⟩) (qF (p := ⟨gb382, 2, none⟩) (qF (p := ⟨gb382, 1, none⟩) (qF (p := ⟨gb382, 0, none⟩) (Kd.R_types HO360.out BK382.out (by decide)) (fun _ hk => hk.2) (.int .i64 t370)) (fun _ hk => hk.2) (.slice Ao17 t371.length co17)) (fun _ hk => hk.2) (.slice Ao18 t374.length co18)) (fun _ hk => hk.2) (.int .i64 t377)) (fun _ hk => hk.2) (.slice Ao19 t378.length co19)) (fun _ h_ => h_.1))))) (Kd.R_lt (by (with_reducible repeat (first | apply qA | apply qN | apply qD)); exact (Kd.R_mono (qF (p := ⟨gb382, 4, none⟩) (qF (p := ⟨gb382, 3, none⟩) (qF (p := ⟨gb382, 2, none⟩) (qF (p := ⟨gb382, 1, none⟩) (qF (p := ⟨gb382, 0, none⟩) (Kd.R_types HO363.out BK382.out (by decide)) (fun _ hk => hk.2) (.int .i64 t370)) (fun _ hk => hk.2) (.slice Ao17 t371.length co17)) (fun _ hk => hk.2) (.slice Ao18 t374.length co18)) (fun _ hk => hk.2) (.int .i64 t377)) (fun _ hk => hk.2) (.slice Ao19 t378.length co19)) (fun _ h_ => h_.1))))) (Kd.R_lt (by (with_reducible repeat (first | apply qA | apply qN | apply qD)); exact (Kd.R_mono (qF (p := ⟨gb382, 4, none⟩) (qF (p := ⟨gb382, 3, none⟩) (qF (p := ⟨gb382, 2, none⟩) (qF (p := ⟨gb382, 1, none⟩) (qF (p := ⟨gb382, 0, none⟩) (Kd.R_types HO373.out BK382.out (by decide)) (fun _ hk => hk.2) (.int .i64 t370)) (fun _ hk => hk.2) (.slice Ao17 t371.length co17)) (fun _ hk => hk.2) (.slice Ao18 t374.length co18)) (fun _ hk => hk.2) (.int .i64 t377)) (fun _ hk => hk.2) (.slice Ao19 t378.length co19)) (fun _ h_ => h_.1))))) (Kd.R_lt (by (with_reducible repeat (first | apply qA | apply qN | apply qD)); exact (Kd.R_mono (qF (p := ⟨gb382, 4, none⟩) (qF (p := ⟨gb382, 3, none⟩) (qF (p := ⟨gb382, 2, none⟩) (qF (p := ⟨gb382, 1, none⟩) (qF (p := ⟨gb382, 0, none⟩) (Kd.R_types HO376.out BK382.out (by decide)) (fun _ hk => hk.2) (.int .i64 t370)) (fun _ hk => hk.2) (.slice Ao17 t371.length co17)) (fun _ hk => hk.2) (.slice Ao18 t374.length co18)) (fun _ hk => hk.2) (.int .i64 t377)) (fun _ hk => hk.2) (.slice Ao19 t378.length co19)) (fun _ h_ => h_.1))))) (below_size (by repeat (first | (with_reducible first | exact HB.out | apply yA | apply yN | apply yD | refine yS ?_ GE369.out | refine yS ?_ GE382.out) | exact HB.out)))); have n7_ := qM (Kd.R_lower (Kd.R_new' (Kd.R_new' (Kd.R_new' (Kd.R_new' ho1 (Kd.R_lt (by (with_reducible repeat (first | apply qA | apply qN | apply qD)); exact (Kd.R_mono (qF (p := ⟨gb382, 4, none⟩) (qF (p := ⟨gb382, 3, none⟩) (qF (p := ⟨gb382, 2, none⟩) (qF (p := ⟨gb382, 1, none⟩) (qF (p := ⟨gb382, 0, none⟩) (Kd.R_types HO360.out BK382.out (by decide)) (fun _ hk => hk.2) (.int .i64 t370)) (fun _ hk => hk.2) (.slice Ao17 t371.length co17)) (fun _ hk => hk.2) (.slice Ao18 t374.length co18)) (fun _ hk => hk.2) (.int .i64 t377)) (fun _ hk => hk.2) (.slice Ao19 t378.length co19)) (fun _ h_ => h_.1))))) (Kd.R_lt (by (with_reducible repeat (first | apply qA | apply qN | apply qD)); exact (Kd.R_mono (qF (p := ⟨gb382, 4, none⟩) (qF (p := ⟨gb382, 3, none⟩) (qF (p := ⟨gb382, 2, none⟩) (qF (p := ⟨gb382, 1, none⟩) (qF (p := ⟨gb382, 0, none⟩) (Kd.R_types HO363.out BK382.out (by decide)) (fun _ hk => hk.2) (.int .i64 t370)) (fun _ hk => hk.2) (.slice Ao17 t371.length co17)) (fun _ hk => hk.2) (.slice Ao18 t374.length co18)) (fun _ hk => hk.2) (.int .i64 t377)) (fun _ hk => hk.2) (.slice Ao19 t378.length co19)) (fun _ h_ => h_.1))))) (Kd.R_lt (by (with_reducible repeat (first | apply qA | apply qN | apply qD)); exact (Kd.R_mono (qF (p := ⟨gb382, 4, none⟩) (qF (p := ⟨gb382, 3, none⟩) (qF (p := ⟨gb382, 2, none⟩) (qF (p := ⟨gb382, 1, none⟩) (qF (p := ⟨gb382, 0, none⟩) (Kd.R_types HO373.out BK382.out (by decide)) (fun _ hk => hk.2) (.int .i64 t370)) (fun _ hk => hk.2) (.slice Ao17 t371.length co17)) (fun _ hk => hk.2) (.slice Ao18 t374.length co18)) (fun _ hk => hk.2) (.int .i64 t377)) (fun _ hk => hk.2) (.slice Ao19 t378.length co19)) (fun _ h_ => h_.1))))) (Kd.R_lt (by (with_reducible repeat (first | apply qA | apply qN | apply qD)); exact (Kd.R_mono (qF (p := ⟨gb382, 4, none⟩) (qF (p := ⟨gb382, 3, none⟩) (qF (p := ⟨gb382, 2, none⟩) (qF (p := ⟨gb382, 1, none⟩) (qF (p := ⟨gb382, 0, none⟩) (Kd.R_types HO376.out BK382.out (by decide)) (fun _ hk => hk.2) (.int .i64 t370)) (fun _ hk => hk.2) (.slice Ao17 t371.length co17)) (fun _ hk => hk.2) (.slice Ao18 t374.length co18)) (fun _ hk => hk.2) (.int .i64 t377)) (fun _ hk => hk.2) (.slice Ao19 t378.length co19)) (fun _ h_ => h_.1))))) (below_size (by repeat (first | (with_reducible first | exact HB.out | apply yA | apply yN | apply yD | refine yS ?_ GE369.out | refine yS ?_ GE382.out) | exact HB.out)))); have n8_ := qM (Kd.R_lower (Kd.R_new' (Kd.R_new' ho2 (Kd.R_lt (by (with_reducible repeat (first | apply qA | apply qN | apply qD)); exact (Kd.R_mono (qF (p := ⟨gb382, 4, none⟩) (qF (p := ⟨gb382, 3, none⟩) (qF (p := ⟨gb382, 2, none⟩) (qF (p := ⟨gb382, 1, none⟩) (qF (p := ⟨gb382, 0, none⟩) (Kd.R_types HO367.out BK382.out (by decide)) (fun _ hk => hk.2) (.int .i64 t370)) (fun _ hk => hk.2) (.slice Ao17 t371.length co17)) (fun _ hk => hk.2) (.slice Ao18 t374.length co18)) (fun _ hk => hk.2) (.int .i64 t377)) (fun _ hk => hk.2) (.slice Ao19 t378.length co19)) (fun _ h_ => h_.1))))) (Kd.R_lt (by (with_reducible repeat (first | apply qA | apply qN | apply qD)); exact (Kd.R_mono (qF (p := ⟨gb382, 4, none⟩) (qF (p := ⟨gb382, 3, none⟩) (qF (p := ⟨gb382, 2, none⟩) (qF (p := ⟨gb382, 1, none⟩) (qF (p := ⟨gb382, 0, none⟩) (Kd.R_types HO380.out BK382.out (by decide)) (fun _ hk => hk.2) (.int .i64 t370)) (fun _ hk => hk.2) (.slice Ao17 t371.length co17)) (fun _ hk => hk.2) (.slice Ao18 t374.length co18)) (fun _ hk => hk.2) (.int .i64 t377)) (fun _ hk => hk.2) (.slice Ao19 t378.length co19)) (fun _ h_ => h_.1))))) (below_size (by repeat (first | (with_reducible first | exact HB.out | apply yA | apply yN | apply yD | refine yS ?_ GE369.out | refine yS ?_ GE382.out) | exact HB.out)))); have n9_ := qM (blk_below (g := gb369) (o := .cells #[.int .i64 t357, .slice Ao10 t358.length co10, .slice Ao11 t361.length co11, .int .i64 t364, .slice Ao12 t365.length co12] 48 (0, 0)) (by (with_reducible repeat (first | refine zN ?_ _ | refine zD ?_ | refine zA ?_ _)); refine blk_far ?_ NB369_382.out _; (with_reducible repeat (first | refine zN ?_ _ | refine zD ?_ | refine zA ?_ _)); refine blk_far ?_ NB369_382.out _; (with_reducible repeat (first | refine zN ?_ _ | refine zD ?_ | refine zA ?_ _)); refine blk_far ?_ NB369_382.out _; (with_reducible repeat (first | refine zN ?_ _ | refine zD ?_ | refine zA ?_ _)); refine blk_far ?_ NB369_382.out _; (with_reducible repeat (first | refine zN ?_ _ | refine zD ?_ | refine zA ?_ _)); refine blk_far ?_ NB369_382.out _; (with_reducible repeat (first | refine zN ?_ _ | refine zD ?_ | refine zA ?_ _)); exact BK369.out) hb); have n10_ := qM (blk_below (g := gb382) (o := .cells #[.int .i64 t370, .slice Ao17 t371.length co17, .slice Ao18 t374.length co18, .int .i64 t377, .slice Ao19 t378.length co19] 48 (0, 0)) (by (with_reducible repeat (first | refine zN ?_ _ | refine zD ?_ | refine zA ?_ _)); refine blk_put (cs := #[.int .i64 t370, .slice Ao17 t371.length co17, .slice Ao18 t374.length co18, .int .i64 t377, .slice none 0 0]) ?_ 4 _ rfl; (with_reducible repeat (first | refine zN ?_ _ | refine zD ?_ | refine zA ?_ _)); refine blk_put (cs := #[.int .i64 t370, .slice Ao17 t371.length co17, .slice Ao18 t374.length co18, .int .i64 0, .slice none 0 0]) ?_ 3 _ rfl; (with_reducible repeat (first | refine zN ?_ _ | refine zD ?_ | refine zA ?_ _)); refine blk_put (cs := #[.int .i64 t370, .slice Ao17 t371.length co17, .slice none 0 0, .int .i64 0, .slice none 0 0]) ?_ 2 _ rfl; (with_reducible repeat (first | refine zN ?_ _ | refine zD ?_ | refine zA ?_ _)); refine blk_put (cs := #[.int .i64 t370, .slice none 0 0, .slice none 0 0, .int .i64 0, .slice none 0 0]) ?_ 1 _ rfl; (with_reducible repeat (first | refine zN ?_ _ | refine zD ?_ | refine zA ?_ _)); refine blk_put (cs := #[.int .i64 0, .slice none 0 0, .slice none 0 0, .int .i64 0, .slice none 0 0]) ?_ 0 _ rfl; (with_reducible repeat (first | refine zN ?_ _ | refine zD ?_ | refine zA ?_ _)); exact BK382.out) hb); have n11_ := qM (below_step (by repeat (first | (with_reducible first | exact HB.out | apply yA | apply yN | apply yD | refine yS ?_ GE369.out | refine yS ?_ GE382.out) | exact HB.out)) hb); clear HO360; clear HO363; clear HO367; clear HO373; clear HO376; clear HO380; clear BK369; clear BK382; clear HB; have HO360 := n0_; have HO363 := n1_; have HO367 := n2_; have HO373 := n3_; have HO376 := n4_; have HO380 := n5_; have HO386 := n6_; have HO389 := n7_; have HO393 := n8_; have BK369 := n9_; have BK382 := n10_; have HB := n11_; clear n0_ n1_ n2_ n3_ n4_ n5_ n6_ n7_ n8_ n9_ n10_ n11_; (try clear hb); (try clear hb2); (try clear hk); (try clear hi); (try clear ho0); (try clear ho1); (try clear ho2)) | ((with_reducible refine gate_dst (N := 7) rfl ?_); (try (refine gate_guard (by rfl) ?_; dsimp only)); refine box_event ?hg (N := 7) ?hd (cs := #[.int .i64 0, .slice none 0 0, .slice none 0 0, .int .i64 0, .slice none 0 0]) (t := 48) ?hr ?_; (case hd => rfl); (case hg => rfl); (case hr => first | (go_simp; done) | (go_simp; rfl)); intro gb395 hg w22 hbox hb; have n0_ := qM (Kd.R_below (by (with_reducible repeat (first | apply qA | apply qN | apply qD)); exact HO360.out) hb); have n1_ := qM (Kd.R_below (by (with_reducible repeat (first | apply qA | apply qN | apply qD)); exact HO363.out) hb); have n2_ := qM (Kd.R_below (by (with_reducible repeat (first | apply qA | apply qN | apply qD)); exact HO367.out) hb); have n3_ := qM (Kd.R_below (by (with_reducible repeat (first | apply qA | apply qN | apply qD)); exact HO373.out) hb); have n4_ := qM (Kd.R_below (by (with_reducible repeat (first | apply qA | apply qN | apply qD)); exact HO376.out) hb); have n5_ := qM (Kd.R_below (by (with_reducible repeat (first | apply qA | apply qN | apply qD)); exact HO380.out) hb); have n6_ := qM (Kd.R_below (by (with_reducible repeat (first | apply qA | apply qN | apply qD)); exact HO386.out) hb); have n7_ := qM (Kd.R_below (by (with_reducible repeat (first | apply qA | apply qN | apply qD)); exact HO389.out) hb); have n8_ := qM (Kd.R_below (by (with_reducible repeat (first | apply qA | apply qN | apply qD)); exact HO393.out) hb); have n9_ := qM (blk_below (g := gb369) (o := .cells #[.int .i64 t357, .slice Ao10 t358.length co10, .slice Ao11 t361.length co11, .int .i64 t364, .slice Ao12 t365.length co12] 48 (0, 0)) (by (with_reducible repeat (first | refine zN ?_ _ | refine zD ?_ | refine zA ?_ _)); exact BK369.out) hb); have n10_ := qM (blk_below (g := gb382) (o := .cells #[.int .i64 t370, .slice Ao17 t371.length co17, .slice Ao18 t374.length co18, .int .i64 t377, .slice Ao19 t378.length co19] 48 (0, 0)) (by (with_reducible repeat (first | refine zN ?_ _ | refine zD ?_ | refine zA ?_ _)); exact BK382.out) hb); have n11_ := qM (below_step (by repeat (first | (with_reducible first | exact HB.out | apply yA | apply yN | apply yD | refine yS ?_ GE369.out | refine yS ?_ GE382.out) | exact HB.out)) hb); have n12_ := qM (hbox); have n13_ := qM ((by rw [hg]; exact (below_size (by repeat (first | (with_reducible first | exact HB.out | apply yA | apply yN | apply yD | refine yS ?_ GE369.out | refine yS ?_ GE382.out) | exact HB.out))) : w.heap.size ≤ gb395)); have n14_ := qM ((by rw [hg]; exact (below_size (by repeat (first | (with_reducible first | exact HB.out | apply yA | apply yN | apply yD | refine yS ?_ GE369.out | refine yS ?_ GE382.out) | exact HB.out))) : w.heap.size ≤ gb395)); have n15_ := qM ((by rw [hg]; exact Nat.ne_of_lt (blk_lt (g := gb369) (o := .cells #[.int .i64 t357, .slice Ao10 t358.length co10, .slice Ao11 t361.length co11, .int .i64 t364, .slice Ao12 t365.length co12] 48 (0, 0)) (by (with_reducible repeat (first | refine zN ?_ _ | refine zD ?_ | refine zA ?_ _)); exact BK369.out)) : gb369 ≠ gb395)); have n16_ := qM ((by rw [hg]; exact Nat.ne_of_gt (blk_lt (g := gb369) (o := .cells #[.int .i64 t357, .slice Ao10 t358.length co10, .slice Ao11 t361.length co11, .int .i64 t364, .slice Ao12 t365.length co12] 48 (0, 0)) (by (with_reducible repeat (first | refine zN ?_ _ | refine zD ?_ | refine zA ?_ _)); exact BK369.out)) : gb395 ≠ gb369)); have n17_ := qM ((by rw [hg]; exact Nat.ne_of_lt (blk_lt (g := gb382) (o := .cells #[.int .i64 t370, .slice Ao17 t371.length co17, .slice Ao18 t374.length co18, .int .i64 t377, .slice Ao19 t378.length co19] 48 (0, 0)) (by (with_reducible repeat (first | refine zN ?_ _ | refine zD ?_ | refine zA ?_ _)); exact BK382.out)) : gb382 ≠ gb395)); have n18_ := qM ((by rw [hg]; exact Nat.ne_of_gt (blk_lt (g := gb382) (o := .cells #[.int .i64 t370, .slice Ao17 t371.length co17, .slice Ao18 t374.length co18, .int .i64 t377, .slice Ao19 t378.length co19] 48 (0, 0)) (by (with_reducible repeat (first | refine zN ?_ _ | refine zD ?_ | refine zA ?_ _)); exact BK382.out)) : gb395 ≠ gb382)); clear HO360; clear HO363; clear HO367; clear HO373; clear HO376; clear HO380; clear HO386; clear HO389; clear HO393; clear BK369; clear BK382; clear HB; have HO360 := n0_; have HO363 := n1_; have HO367 := n2_; have HO373 := n3_; have HO376 := n4_; have HO380 := n5_; have HO386 := n6_; have HO389 := n7_; have HO393 := n8_; have BK369 := n9_; have BK382 := n10_; have HB := n11_; have BK395 := n12_; have GW395 := n13_; have GE395 := n14_; have NB369_395 := n15_; have NB395_369 := n16_; have NB382_395 := n17_; have NB395_382 := n18_; clear n0_ n1_ n2_ n3_ n4_ n5_ n6_ n7_ n8_ n9_ n10_ n11_ n12_ n13_ n14_ n15_ n16_ n17_ n18_; clear hb hbox hg; have hnb23 := NB395_369.out; have hnc23 := NB369_395.out; have hnb24 := NB395_382.out; have hnc24 := NB382_395.out; have hcz25_0 : w22.cell? ⟨gb395, 0, none⟩ = some (.int .i64 0) := (zC BK395.out 0).trans rfl; have hcz25_1 : w22.cell? ⟨gb395, 1, none⟩ = some (.slice none 0 0) := (zC BK395.out 1).trans rfl; have hcz25_2 : w22.cell? ⟨gb395, 2, none⟩ = some (.slice none 0 0) := (zC BK395.out 2).trans rfl; have hcz25_3 : w22.cell? ⟨gb395, 3, none⟩ = some (.int .i64 0) := (zC BK395.out 3).trans rfl; have hcz25_4 : w22.cell? ⟨gb395, 4, none⟩ = some (.slice none 0 0) := (zC BK395.out 4).trans rfl; have hfz25_0 := zF BK395.out 0; have hfz25_1 := zF BK395.out 1; have hfz25_2 := zF BK395.out 2; have hfz25_3 := zF BK395.out 3; have hfz25_4 := zF BK395.out 4; obtain ⟨Ao26, co26, eo26⟩ := Kd.R_slice HO386.out; subst eo26; obtain ⟨Ao27, co27, eo27⟩ := Kd.R_slice HO389.out; subst eo27; obtain ⟨Ao28, co28, eo28⟩ := Kd.R_slice HO393.out; subst eo28))
    (try simp only [Act.put, List.setIfInBounds_toArray, List.set_cons_zero, List.set_cons_succ])
    go_cut [37] (fun v37 wc => ∃ (kq : Nat) (x37_5 : Bool), v37 = .bool x37_5 ∧ Aside0 (laws_FnCelInput.j0 kq t368 t381 x37_5 t357 t358 t361 t364 t365 t370 t371 t374 t377 t378 = some r) ∧ Aside0 (kq ≤ k) ∧ Aside0 (Kd.R (Kd.int .i64) 3 wc w.heap.size (fun k_ => some k_ ≠ ((.slice Ao11 t361.length co11) : Value).ownBlock ∧ some k_ ≠ ((.slice Ao17 t371.length co17) : Value).ownBlock ∧ some k_ ≠ ((.slice Ao18 t374.length co18) : Value).ownBlock ∧ some k_ ≠ ((.slice Ao26 t384.length co26) : Value).ownBlock ∧ some k_ ≠ ((.slice Ao27 t387.length co27) : Value).ownBlock) (.slice Ao10 t358.length co10) t358) ∧ Aside0 (Kd.R (Kd.int .i64) 3 wc w.heap.size (fun k_ => some k_ ≠ ((.slice Ao10 t358.length co10) : Value).ownBlock ∧ some k_ ≠ ((.slice Ao17 t371.length co17) : Value).ownBlock ∧ some k_ ≠ ((.slice Ao18 t374.length co18) : Value).ownBlock ∧ some k_ ≠ ((.slice Ao26 t384.length co26) : Value).ownBlock ∧ some k_ ≠ ((.slice Ao27 t387.length co27) : Value).ownBlock) (.slice Ao11 t361.length co11) t361) ∧ Aside0 (Kd.R (Kd.int .u8) 5 wc w.heap.size (fun k_ => some k_ ≠ ((.slice Ao19 t378.length co19) : Value).ownBlock ∧ some k_ ≠ ((.slice Ao28 t391.length co28) : Value).ownBlock) (.slice Ao12 t365.length co12) t365) ∧ Aside0 (Kd.R (Kd.int .i64) 3 wc w.heap.size (fun k_ => some k_ ≠ ((.slice Ao10 t358.length co10) : Value).ownBlock ∧ some k_ ≠ ((.slice Ao11 t361.length co11) : Value).ownBlock ∧ some k_ ≠ ((.slice Ao18 t374.length co18) : Value).ownBlock ∧ some k_ ≠ ((.slice Ao26 t384.length co26) : Value).ownBlock ∧ some k_ ≠ ((.slice Ao27 t387.length co27) : Value).ownBlock) (.slice Ao17 t371.length co17) t371) ∧ Aside0 (Kd.R (Kd.int .i64) 3 wc w.heap.size (fun k_ => some k_ ≠ ((.slice Ao10 t358.length co10) : Value).ownBlock ∧ some k_ ≠ ((.slice Ao11 t361.length co11) : Value).ownBlock ∧ some k_ ≠ ((.slice Ao17 t371.length co17) : Value).ownBlock ∧ some k_ ≠ ((.slice Ao26 t384.length co26) : Value).ownBlock ∧ some k_ ≠ ((.slice Ao27 t387.length co27) : Value).ownBlock) (.slice Ao18 t374.length co18) t374) ∧ Aside0 (Kd.R (Kd.int .u8) 5 wc w.heap.size (fun k_ => some k_ ≠ ((.slice Ao12 t365.length co12) : Value).ownBlock ∧ some k_ ≠ ((.slice Ao28 t391.length co28) : Value).ownBlock) (.slice Ao19 t378.length co19) t378) ∧ Aside0 (Kd.R (Kd.int .i64) 3 wc w.heap.size (fun k_ => some k_ ≠ ((.slice Ao10 t358.length co10) : Value).ownBlock ∧ some k_ ≠ ((.slice Ao11 t361.length co11) : Value).ownBlock ∧ some k_ ≠ ((.slice Ao17 t371.length co17) : Value).ownBlock ∧ some k_ ≠ ((.slice Ao18 t374.length co18) : Value).ownBlock ∧ some k_ ≠ ((.slice Ao27 t387.length co27) : Value).ownBlock) (.slice Ao26 t384.length co26) t384) ∧ Aside0 (Kd.R (Kd.int .i64) 3 wc w.heap.size (fun k_ => some k_ ≠ ((.slice Ao10 t358.length co10) : Value).ownBlock ∧ some k_ ≠ ((.slice Ao11 t361.length co11) : Value).ownBlock ∧ some k_ ≠ ((.slice Ao17 t371.length co17) : Value).ownBlock ∧ some k_ ≠ ((.slice Ao18 t374.length co18) : Value).ownBlock ∧ some k_ ≠ ((.slice Ao26 t384.length co26) : Value).ownBlock) (.slice Ao27 t387.length co27) t387) ∧ Aside0 (Kd.R (Kd.int .u8) 5 wc w.heap.size (fun k_ => some k_ ≠ ((.slice Ao12 t365.length co12) : Value).ownBlock ∧ some k_ ≠ ((.slice Ao19 t378.length co19) : Value).ownBlock) (.slice Ao28 t391.length co28) t391) ∧ Aside0 (wc.heap[gb369]? = some (.cells #[.int .i64 t357, (.slice Ao10 t358.length co10), (.slice Ao11 t361.length co11), .int .i64 t364, (.slice Ao12 t365.length co12)] 48 (0, 0))) ∧ Aside0 (wc.heap[gb382]? = some (.cells #[.int .i64 t370, (.slice Ao17 t371.length co17), (.slice Ao18 t374.length co18), .int .i64 t377, (.slice Ao19 t378.length co19)] 48 (0, 0))) ∧ Aside0 (wc.heap[gb395]? = some (.cells #[.int .i64 t383, (.slice Ao26 t384.length co26), (.slice Ao27 t387.length co27), .int .i64 t390, (.slice Ao28 t391.length co28)] 48 (0, 0))) ∧ Aside0 (Below w.heap.size w wc))
    case first =>
      have H := HC6.out
      clear HC6
      by_cases c29 : (t381 != t394) = true
      · rw [if_pos c29] at H
        have c29b0 : (t381 != t394) = true := c29
        (try (have c29b1 : decide (t381 = t394) = false := by simpa using c29))
        (try (have c29b2 : (t381 == t394) = false := by simpa using c29))
        (try (have c29b3 : ¬ (t381 = t394) := by simpa using c29))
        clear c29
        (first | rw [c29b0] | (simp only [i64_w, i32_w]; rw [c29b0]) | skip)
        have H' := qM H
        clear H
        go_wp2
        go_meet
        case rel => exact ⟨_, (true), (by first | rfl | (simp; done) | (simp [*]; done)), H', ⟨by first | omega | exact Nat.le_refl _⟩, ⟨by (with_reducible repeat (first | apply qA | apply qN | apply qD)); exact Kd.R_mono (qF (p := ⟨gb395, 4, none⟩) (qF (p := ⟨gb395, 3, none⟩) (qF (p := ⟨gb395, 2, none⟩) (qF (p := ⟨gb395, 1, none⟩) (qF (p := ⟨gb395, 0, none⟩) (Kd.R_types HO360.out BK395.out (by decide)) (fun _ hk => hk.2) (.int .i64 t383)) (fun _ hk => hk.2) (.slice Ao26 t384.length co26)) (fun _ hk => hk.2) (.slice Ao27 t387.length co27)) (fun _ hk => hk.2) (.int .i64 t390)) (fun _ hk => hk.2) (.slice Ao28 t391.length co28)) (fun _ hk => ⟨hk.1.1.1.1.1, ⟨hk.1.1.1.1.2, ⟨hk.1.1.1.2, ⟨hk.1.1.2, hk.1.2⟩⟩⟩⟩)⟩, ⟨by (with_reducible repeat (first | apply qA | apply qN | apply qD)); exact Kd.R_mono (qF (p := ⟨gb395, 4, none⟩) (qF (p := ⟨gb395, 3, none⟩) (qF (p := ⟨gb395, 2, none⟩) (qF (p := ⟨gb395, 1, none⟩) (qF (p := ⟨gb395, 0, none⟩) (Kd.R_types HO363.out BK395.out (by decide)) (fun _ hk => hk.2) (.int .i64 t383)) (fun _ hk => hk.2) (.slice Ao26 t384.length co26)) (fun _ hk => hk.2) (.slice Ao27 t387.length co27)) (fun _ hk => hk.2) (.int .i64 t390)) (fun _ hk => hk.2) (.slice Ao28 t391.length co28)) (fun _ hk => ⟨hk.1.1.1.1.1, ⟨hk.1.1.1.1.2, ⟨hk.1.1.1.2, ⟨hk.1.1.2, hk.1.2⟩⟩⟩⟩)⟩, ⟨by (with_reducible repeat (first | apply qA | apply qN | apply qD)); exact Kd.R_mono (qF (p := ⟨gb395, 4, none⟩) (qF (p := ⟨gb395, 3, none⟩) (qF (p := ⟨gb395, 2, none⟩) (qF (p := ⟨gb395, 1, none⟩) (qF (p := ⟨gb395, 0, none⟩) (Kd.R_types HO367.out BK395.out (by decide)) (fun _ hk => hk.2) (.int .i64 t383)) (fun _ hk => hk.2) (.slice Ao26 t384.length co26)) (fun _ hk => hk.2) (.slice Ao27 t387.length co27)) (fun _ hk => hk.2) (.int .i64 t390)) (fun _ hk => hk.2) (.slice Ao28 t391.length co28)) (fun _ hk => ⟨hk.1.1.2, hk.1.2⟩)⟩, ⟨by (with_reducible repeat (first | apply qA | apply qN | apply qD)); exact Kd.R_mono (qF (p := ⟨gb395, 4, none⟩) (qF (p := ⟨gb395, 3, none⟩) (qF (p := ⟨gb395, 2, none⟩) (qF (p := ⟨gb395, 1, none⟩) (qF (p := ⟨gb395, 0, none⟩) (Kd.R_types HO373.out BK395.out (by decide)) (fun _ hk => hk.2) (.int .i64 t383)) (fun _ hk => hk.2) (.slice Ao26 t384.length co26)) (fun _ hk => hk.2) (.slice Ao27 t387.length co27)) (fun _ hk => hk.2) (.int .i64 t390)) (fun _ hk => hk.2) (.slice Ao28 t391.length co28)) (fun _ hk => ⟨hk.1.1.1.1.2, ⟨hk.1.1.1.2, ⟨hk.1.1.1.1.1, ⟨hk.1.1.2, hk.1.2⟩⟩⟩⟩)⟩, ⟨by (with_reducible repeat (first | apply qA | apply qN | apply qD)); exact Kd.R_mono (qF (p := ⟨gb395, 4, none⟩) (qF (p := ⟨gb395, 3, none⟩) (qF (p := ⟨gb395, 2, none⟩) (qF (p := ⟨gb395, 1, none⟩) (qF (p := ⟨gb395, 0, none⟩) (Kd.R_types HO376.out BK395.out (by decide)) (fun _ hk => hk.2) (.int .i64 t383)) (fun _ hk => hk.2) (.slice Ao26 t384.length co26)) (fun _ hk => hk.2) (.slice Ao27 t387.length co27)) (fun _ hk => hk.2) (.int .i64 t390)) (fun _ hk => hk.2) (.slice Ao28 t391.length co28)) (fun _ hk => ⟨hk.1.1.1.1.2, ⟨hk.1.1.1.2, ⟨hk.1.1.1.1.1, ⟨hk.1.1.2, hk.1.2⟩⟩⟩⟩)⟩, ⟨by (with_reducible repeat (first | apply qA | apply qN | apply qD)); exact Kd.R_mono (qF (p := ⟨gb395, 4, none⟩) (qF (p := ⟨gb395, 3, none⟩) (qF (p := ⟨gb395, 2, none⟩) (qF (p := ⟨gb395, 1, none⟩) (qF (p := ⟨gb395, 0, none⟩) (Kd.R_types HO380.out BK395.out (by decide)) (fun _ hk => hk.2) (.int .i64 t383)) (fun _ hk => hk.2) (.slice Ao26 t384.length co26)) (fun _ hk => hk.2) (.slice Ao27 t387.length co27)) (fun _ hk => hk.2) (.int .i64 t390)) (fun _ hk => hk.2) (.slice Ao28 t391.length co28)) (fun _ hk => ⟨hk.1.1.2, hk.1.2⟩)⟩, ⟨by (with_reducible repeat (first | apply qA | apply qN | apply qD)); exact Kd.R_mono (qF (p := ⟨gb395, 4, none⟩) (qF (p := ⟨gb395, 3, none⟩) (qF (p := ⟨gb395, 2, none⟩) (qF (p := ⟨gb395, 1, none⟩) (qF (p := ⟨gb395, 0, none⟩) (Kd.R_types HO386.out BK395.out (by decide)) (fun _ hk => hk.2) (.int .i64 t383)) (fun _ hk => hk.2) (.slice Ao26 t384.length co26)) (fun _ hk => hk.2) (.slice Ao27 t387.length co27)) (fun _ hk => hk.2) (.int .i64 t390)) (fun _ hk => hk.2) (.slice Ao28 t391.length co28)) (fun _ hk => ⟨hk.1.1.1.1.2, ⟨hk.1.1.1.2, ⟨hk.1.1.2, ⟨hk.1.2, hk.1.1.1.1.1⟩⟩⟩⟩)⟩, ⟨by (with_reducible repeat (first | apply qA | apply qN | apply qD)); exact Kd.R_mono (qF (p := ⟨gb395, 4, none⟩) (qF (p := ⟨gb395, 3, none⟩) (qF (p := ⟨gb395, 2, none⟩) (qF (p := ⟨gb395, 1, none⟩) (qF (p := ⟨gb395, 0, none⟩) (Kd.R_types HO389.out BK395.out (by decide)) (fun _ hk => hk.2) (.int .i64 t383)) (fun _ hk => hk.2) (.slice Ao26 t384.length co26)) (fun _ hk => hk.2) (.slice Ao27 t387.length co27)) (fun _ hk => hk.2) (.int .i64 t390)) (fun _ hk => hk.2) (.slice Ao28 t391.length co28)) (fun _ hk => ⟨hk.1.1.1.1.2, ⟨hk.1.1.1.2, ⟨hk.1.1.2, ⟨hk.1.2, hk.1.1.1.1.1⟩⟩⟩⟩)⟩, ⟨by (with_reducible repeat (first | apply qA | apply qN | apply qD)); exact Kd.R_mono (qF (p := ⟨gb395, 4, none⟩) (qF (p := ⟨gb395, 3, none⟩) (qF (p := ⟨gb395, 2, none⟩) (qF (p := ⟨gb395, 1, none⟩) (qF (p := ⟨gb395, 0, none⟩) (Kd.R_types HO393.out BK395.out (by decide)) (fun _ hk => hk.2) (.int .i64 t383)) (fun _ hk => hk.2) (.slice Ao26 t384.length co26)) (fun _ hk => hk.2) (.slice Ao27 t387.length co27)) (fun _ hk => hk.2) (.int .i64 t390)) (fun _ hk => hk.2) (.slice Ao28 t391.length co28)) (fun _ hk => ⟨hk.1.1.2, hk.1.2⟩)⟩, ⟨by (with_reducible repeat (first | refine zN ?_ _ | refine zD ?_ | refine zA ?_ _)); refine blk_far ?_ NB369_395.out _; (with_reducible repeat (first | refine zN ?_ _ | refine zD ?_ | refine zA ?_ _)); refine blk_far ?_ NB369_395.out _; (with_reducible repeat (first | refine zN ?_ _ | refine zD ?_ | refine zA ?_ _)); refine blk_far ?_ NB369_395.out _; (with_reducible repeat (first | refine zN ?_ _ | refine zD ?_ | refine zA ?_ _)); refine blk_far ?_ NB369_395.out _; (with_reducible repeat (first | refine zN ?_ _ | refine zD ?_ | refine zA ?_ _)); refine blk_far ?_ NB369_395.out _; (with_reducible repeat (first | refine zN ?_ _ | refine zD ?_ | refine zA ?_ _)); exact BK369.out⟩, ⟨by (with_reducible repeat (first | refine zN ?_ _ | refine zD ?_ | refine zA ?_ _)); refine blk_far ?_ NB382_395.out _; (with_reducible repeat (first | refine zN ?_ _ | refine zD ?_ | refine zA ?_ _)); refine blk_far ?_ NB382_395.out _; (with_reducible repeat (first | refine zN ?_ _ | refine zD ?_ | refine zA ?_ _)); refine blk_far ?_ NB382_395.out _; (with_reducible repeat (first | refine zN ?_ _ | refine zD ?_ | refine zA ?_ _)); refine blk_far ?_ NB382_395.out _; (with_reducible repeat (first | refine zN ?_ _ | refine zD ?_ | refine zA ?_ _)); refine blk_far ?_ NB382_395.out _; (with_reducible repeat (first | refine zN ?_ _ | refine zD ?_ | refine zA ?_ _)); exact BK382.out⟩, ⟨by (with_reducible repeat (first | refine zN ?_ _ | refine zD ?_ | refine zA ?_ _)); refine blk_put (cs := #[.int .i64 t383, .slice Ao26 t384.length co26, .slice Ao27 t387.length co27, .int .i64 t390, .slice none 0 0]) ?_ 4 _ rfl; (with_reducible repeat (first | refine zN ?_ _ | refine zD ?_ | refine zA ?_ _)); refine blk_put (cs := #[.int .i64 t383, .slice Ao26 t384.length co26, .slice Ao27 t387.length co27, .int .i64 0, .slice none 0 0]) ?_ 3 _ rfl; (with_reducible repeat (first | refine zN ?_ _ | refine zD ?_ | refine zA ?_ _)); refine blk_put (cs := #[.int .i64 t383, .slice Ao26 t384.length co26, .slice none 0 0, .int .i64 0, .slice none 0 0]) ?_ 2 _ rfl; (with_reducible repeat (first | refine zN ?_ _ | refine zD ?_ | refine zA ?_ _)); refine blk_put (cs := #[.int .i64 t383, .slice none 0 0, .slice none 0 0, .int .i64 0, .slice none 0 0]) ?_ 1 _ rfl; (with_reducible repeat (first | refine zN ?_ _ | refine zD ?_ | refine zA ?_ _)); refine blk_put (cs := #[.int .i64 0, .slice none 0 0, .slice none 0 0, .int .i64 0, .slice none 0 0]) ?_ 0 _ rfl; (with_reducible repeat (first | refine zN ?_ _ | refine zD ?_ | refine zA ?_ _)); exact BK395.out⟩, ⟨by repeat (first | (with_reducible first | exact HB.out | apply yA | apply yN | apply yD | refine yS ?_ GE369.out | refine yS ?_ GE382.out | refine yS ?_ GE395.out) | exact HB.out)⟩⟩
      · rw [if_neg c29] at H
        have c29b0 : (t381 != t394) = false := by simpa using c29
        (try (have c29b1 : decide (t381 = t394) = true := by simpa using c29))
        (try (have c29b2 : (t381 == t394) = true := by simpa using c29))
        clear c29
        (first | rw [c29b0] | (simp only [i64_w, i32_w]; rw [c29b0]) | skip)
        replace H := Option.bind_eq_some_iff.mp H
        obtain ⟨t396, A300, H⟩ := H
        replace H : (laws_FnCelInput.j0 k t368 t381 (!t396) t357 t358 t361 t364 t365 t370 t371 t374 t377 t378) = some r := H
        have A30 := qM A300
        clear A300
        have H' := qM H
        clear H
        have hnb31 := NB382_369.out
        have hnc31 := NB369_382.out
        have hnb32 := NB382_395.out
        have hnc32 := NB395_382.out
        have hcz33_0 : w22.cell? ⟨gb382, 0, none⟩ = some (.int .i64 t370) := (zC BK382.out 0).trans rfl
        have hcz33_1 : w22.cell? ⟨gb382, 1, none⟩ = some (.slice Ao17 t371.length co17) := (zC BK382.out 1).trans rfl
        have hcz33_2 : w22.cell? ⟨gb382, 2, none⟩ = some (.slice Ao18 t374.length co18) := (zC BK382.out 2).trans rfl
        have hcz33_3 : w22.cell? ⟨gb382, 3, none⟩ = some (.int .i64 t377) := (zC BK382.out 3).trans rfl
        have hcz33_4 : w22.cell? ⟨gb382, 4, none⟩ = some (.slice Ao19 t378.length co19) := (zC BK382.out 4).trans rfl
        have hfz33_0 := zF BK382.out 0
        have hfz33_1 := zF BK382.out 1
        have hfz33_2 := zF BK382.out 2
        have hfz33_3 := zF BK382.out 3
        have hfz33_4 := zF BK382.out 4
        have hnb34 := NB395_369.out
        have hnc34 := NB369_395.out
        have hcz35_0 : w22.cell? ⟨gb395, 0, none⟩ = some (.int .i64 0) := (zC BK395.out 0).trans rfl
        have hcz35_1 : w22.cell? ⟨gb395, 1, none⟩ = some (.slice none 0 0) := (zC BK395.out 1).trans rfl
        have hcz35_2 : w22.cell? ⟨gb395, 2, none⟩ = some (.slice none 0 0) := (zC BK395.out 2).trans rfl
        have hcz35_3 : w22.cell? ⟨gb395, 3, none⟩ = some (.int .i64 0) := (zC BK395.out 3).trans rfl
        have hcz35_4 : w22.cell? ⟨gb395, 4, none⟩ = some (.slice none 0 0) := (zC BK395.out 4).trans rfl
        have hfz35_0 := zF BK395.out 0
        have hfz35_1 := zF BK395.out 1
        have hfz35_2 := zF BK395.out 2
        have hfz35_3 := zF BK395.out 3
        have hfz35_4 := zF BK395.out 4
        go_wp2_with (first | (go_at_call 41; (with_reducible refine (laws_caCell.calls k t370 _ _ t371 _ _ t374 t377 _ _ t378 t383 _ _ t384 _ _ t387 t390 _ _ t391 t396 _ ?side1 ?side2 ?side3 ?side4 ?side5 ?side6 ?side7 ?side8 ?side9 ?side10 ?side11 ?side12 A30.out).mono ?_); (case side1 => refine (qR (e := 3) (base := w.heap.size) (ok := fun k_ => ((((some k_ ≠ (.slice Ao18 t374.length co18 : Value).ownBlock ∧ some k_ ≠ (.slice Ao10 t358.length co10 : Value).ownBlock) ∧ some k_ ≠ (.slice Ao11 t361.length co11 : Value).ownBlock) ∧ some k_ ≠ (.slice Ao26 t384.length co26 : Value).ownBlock) ∧ some k_ ≠ (.slice Ao27 t387.length co27 : Value).ownBlock)) (n := t371.length) (c := co17) ?_).2.2; exact (by (with_reducible repeat (first | apply qA | apply qN | apply qD)); exact (Kd.R_mono (qF (p := ⟨gb395, 4, none⟩) (qF (p := ⟨gb395, 3, none⟩) (qF (p := ⟨gb395, 2, none⟩) (qF (p := ⟨gb395, 1, none⟩) (qF (p := ⟨gb395, 0, none⟩) (Kd.R_types HO373.out BK395.out (by decide)) (fun _ hk => hk.2) (.int .i64 t383)) (fun _ hk => hk.2) (.slice Ao26 t384.length co26)) (fun _ hk => hk.2) (.slice Ao27 t387.length co27)) (fun _ hk => hk.2) (.int .i64 t390)) (fun _ hk => hk.2) (.slice Ao28 t391.length co28)) (fun _ h_ => h_.1)))); (case side2 => exact (qR HO373.out).2.1); (case side3 => refine (qR (e := 3) (base := w.heap.size) (ok := fun k_ => ((((some k_ ≠ (.slice Ao17 t371.length co17 : Value).ownBlock ∧ some k_ ≠ (.slice Ao10 t358.length co10 : Value).ownBlock) ∧ some k_ ≠ (.slice Ao11 t361.length co11 : Value).ownBlock) ∧ some k_ ≠ (.slice Ao26 t384.length co26 : Value).ownBlock) ∧ some k_ ≠ (.slice Ao27 t387.length co27 : Value).ownBlock)) (n := t374.length) (c := co18) ?_).2.2; exact (by (with_reducible repeat (first | apply qA | apply qN | apply qD)); exact (Kd.R_mono (qF (p := ⟨gb395, 4, none⟩) (qF (p := ⟨gb395, 3, none⟩) (qF (p := ⟨gb395, 2, none⟩) (qF (p := ⟨gb395, 1, none⟩) (qF (p := ⟨gb395, 0, none⟩) (Kd.R_types HO376.out BK395.out (by decide)) (fun _ hk => hk.2) (.int .i64 t383)) (fun _ hk => hk.2) (.slice Ao26 t384.length co26)) (fun _ hk => hk.2) (.slice Ao27 t387.length co27)) (fun _ hk => hk.2) (.int .i64 t390)) (fun _ hk => hk.2) (.slice Ao28 t391.length co28)) (fun _ h_ => h_.1)))); (case side4 => exact (qR HO376.out).2.1); (case side5 => refine (qR (e := 5) (base := w.heap.size) (ok := fun k_ => ((True ∧ some k_ ≠ (.slice Ao12 t365.length co12 : Value).ownBlock) ∧ some k_ ≠ (.slice Ao28 t391.length co28 : Value).ownBlock)) (n := t378.length) (c := co19) ?_).2.2; exact (by (with_reducible repeat (first | apply qA | apply qN | apply qD)); exact (Kd.R_mono (qF (p := ⟨gb395, 4, none⟩) (qF (p := ⟨gb395, 3, none⟩) (qF (p := ⟨gb395, 2, none⟩) (qF (p := ⟨gb395, 1, none⟩) (qF (p := ⟨gb395, 0, none⟩) (Kd.R_types HO380.out BK395.out (by decide)) (fun _ hk => hk.2) (.int .i64 t383)) (fun _ hk => hk.2) (.slice Ao26 t384.length co26)) (fun _ hk => hk.2) (.slice Ao27 t387.length co27)) (fun _ hk => hk.2) (.int .i64 t390)) (fun _ hk => hk.2) (.slice Ao28 t391.length co28)) (fun _ h_ => h_.1)))); (case side6 => exact (qR HO380.out).2.1); (case side7 => refine (qR (e := 3) (base := w.heap.size) (ok := fun k_ => ((((some k_ ≠ (.slice Ao27 t387.length co27 : Value).ownBlock ∧ some k_ ≠ (.slice Ao10 t358.length co10 : Value).ownBlock) ∧ some k_ ≠ (.slice Ao11 t361.length co11 : Value).ownBlock) ∧ some k_ ≠ (.slice Ao17 t371.length co17 : Value).ownBlock) ∧ some k_ ≠ (.slice Ao18 t374.length co18 : Value).ownBlock)) (n := t384.length) (c := co26) ?_).2.2; exact (by (with_reducible repeat (first | apply qA | apply qN | apply qD)); exact (Kd.R_mono (qF (p := ⟨gb395, 4, none⟩) (qF (p := ⟨gb395, 3, none⟩) (qF (p := ⟨gb395, 2, none⟩) (qF (p := ⟨gb395, 1, none⟩) (qF (p := ⟨gb395, 0, none⟩) (Kd.R_types HO386.out BK395.out (by decide)) (fun _ hk => hk.2) (.int .i64 t383)) (fun _ hk => hk.2) (.slice Ao26 t384.length co26)) (fun _ hk => hk.2) (.slice Ao27 t387.length co27)) (fun _ hk => hk.2) (.int .i64 t390)) (fun _ hk => hk.2) (.slice Ao28 t391.length co28)) (fun _ h_ => h_.1)))); (case side8 => exact (qR HO386.out).2.1); (case side9 => refine (qR (e := 3) (base := w.heap.size) (ok := fun k_ => ((((some k_ ≠ (.slice Ao26 t384.length co26 : Value).ownBlock ∧ some k_ ≠ (.slice Ao10 t358.length co10 : Value).ownBlock) ∧ some k_ ≠ (.slice Ao11 t361.length co11 : Value).ownBlock) ∧ some k_ ≠ (.slice Ao17 t371.length co17 : Value).ownBlock) ∧ some k_ ≠ (.slice Ao18 t374.length co18 : Value).ownBlock)) (n := t387.length) (c := co27) ?_).2.2; exact (by (with_reducible repeat (first | apply qA | apply qN | apply qD)); exact (Kd.R_mono (qF (p := ⟨gb395, 4, none⟩) (qF (p := ⟨gb395, 3, none⟩) (qF (p := ⟨gb395, 2, none⟩) (qF (p := ⟨gb395, 1, none⟩) (qF (p := ⟨gb395, 0, none⟩) (Kd.R_types HO389.out BK395.out (by decide)) (fun _ hk => hk.2) (.int .i64 t383)) (fun _ hk => hk.2) (.slice Ao26 t384.length co26)) (fun _ hk => hk.2) (.slice Ao27 t387.length co27)) (fun _ hk => hk.2) (.int .i64 t390)) (fun _ hk => hk.2) (.slice Ao28 t391.length co28)) (fun _ h_ => h_.1)))); (case side10 => exact (qR HO389.out).2.1); (case side11 => refine (qR (e := 5) (base := w.heap.size) (ok := fun k_ => ((True ∧ some k_ ≠ (.slice Ao12 t365.length co12 : Value).ownBlock) ∧ some k_ ≠ (.slice Ao19 t378.length co19 : Value).ownBlock)) (n := t391.length) (c := co28) ?_).2.2; exact (by (with_reducible repeat (first | apply qA | apply qN | apply qD)); exact (Kd.R_mono (qF (p := ⟨gb395, 4, none⟩) (qF (p := ⟨gb395, 3, none⟩) (qF (p := ⟨gb395, 2, none⟩) (qF (p := ⟨gb395, 1, none⟩) (qF (p := ⟨gb395, 0, none⟩) (Kd.R_types HO393.out BK395.out (by decide)) (fun _ hk => hk.2) (.int .i64 t383)) (fun _ hk => hk.2) (.slice Ao26 t384.length co26)) (fun _ hk => hk.2) (.slice Ao27 t387.length co27)) (fun _ hk => hk.2) (.int .i64 t390)) (fun _ hk => hk.2) (.slice Ao28 t391.length co28)) (fun _ h_ => h_.1)))); (case side12 => exact (qR HO393.out).2.1); rintro e w36 ⟨rfl, hb⟩; have n0_ := qM (Kd.R_below (by (with_reducible repeat (first | apply qA | apply qN | apply qD)); exact (Kd.R_mono (qF (p := ⟨gb395, 4, none⟩) (qF (p := ⟨gb395, 3, none⟩) (qF (p := ⟨gb395, 2, none⟩) (qF (p := ⟨gb395, 1, none⟩) (qF (p := ⟨gb395, 0, none⟩) (Kd.R_types HO360.out BK395.out (by decide)) (fun _ hk => hk.2) (.int .i64 t383)) (fun _ hk => hk.2) (.slice Ao26 t384.length co26)) (fun _ hk => hk.2) (.slice Ao27 t387.length co27)) (fun _ hk => hk.2) (.int .i64 t390)) (fun _ hk => hk.2) (.slice Ao28 t391.length co28)) (fun _ h_ => h_.1))) hb); have n1_ := qM (Kd.R_below (by (with_reducible repeat (first | apply qA | apply qN | apply qD)); exact (Kd.R_mono (qF (p := ⟨gb395, 4, none⟩) (qF (p := ⟨gb395, 3, none⟩) (qF (p := ⟨gb395, 2, none⟩) (qF (p := ⟨gb395, 1, none⟩) (qF (p := ⟨gb395, 0, none⟩) (Kd.R_types HO363.out BK395.out (by decide)) (fun _ hk => hk.2) (.int .i64 t383)) (fun _ hk => hk.2) (.slice Ao26 t384.length co26)) (fun _ hk => hk.2) (.slice Ao27 t387.length co27)) (fun _ hk => hk.2) (.int .i64 t390)) (fun _ hk => hk.2) (.slice Ao28 t391.length co28)) (fun _ h_ => h_.1))) hb); have n2_ := qM (Kd.R_below (by (with_reducible repeat (first | apply qA | apply qN | apply qD)); exact (Kd.R_mono (qF (p := ⟨gb395, 4, none⟩) (qF (p := ⟨gb395, 3, none⟩) (qF (p := ⟨gb395, 2, none⟩) (qF (p := ⟨gb395, 1, none⟩) (qF (p := ⟨gb395, 0, none⟩) (Kd.R_types HO367.out BK395.out (by decide)) (fun _ hk => hk.2) (.int .i64 t383)) (fun _ hk => hk.2) (.slice Ao26 t384.length co26)) (fun _ hk => hk.2) (.slice Ao27 t387.length co27)) (fun _ hk => hk.2) (.int .i64 t390)) (fun _ hk => hk.2) (.slice Ao28 t391.length co28)) (fun _ h_ => h_.1))) hb); have n3_ := qM (Kd.R_below (by (with_reducible repeat (first | apply qA | apply qN | apply qD)); exact (Kd.R_mono (qF (p := ⟨gb395, 4, none⟩) (qF (p := ⟨gb395, 3, none⟩) (qF (p := ⟨gb395, 2, none⟩) (qF (p := ⟨gb395, 1, none⟩) (qF (p := ⟨gb395, 0, none⟩) (Kd.R_types HO373.out BK395.out (by decide)) (fun _ hk => hk.2) (.int .i64 t383)) (fun _ hk => hk.2) (.slice Ao26 t384.length co26)) (fun _ hk => hk.2) (.slice Ao27 t387.length co27)) (fun _ hk => hk.2) (.int .i64 t390)) (fun _ hk => hk.2) (.slice Ao28 t391.length co28)) (fun _ h_ => h_.1))) hb); have n4_ := qM (Kd.R_below (by (with_reducible repeat (first | apply qA | apply qN | apply qD)); exact (Kd.R_mono (qF (p := ⟨gb395, 4, none⟩) (qF (p := ⟨gb395, 3, none⟩) (qF (p := ⟨gb395, 2, none⟩) (qF (p := ⟨gb395, 1, none⟩) (qF (p := ⟨gb395, 0, none⟩) (Kd.R_types HO376.out BK395.out (by decide)) (fun _ hk => hk.2) (.int .i64 t383)) (fun _ hk => hk.2) (.slice Ao26 t384.length co26)) (fun _ hk => hk.2) (.slice Ao27 t387.length co27)) (fun _ hk => hk.2) (.int .i64 t390)) (fun _ hk => hk.2) (.slice Ao28 t391.length co28)) (fun _ h_ => h_.1))) hb); have n5_ := qM (Kd.R_below (by (with_reducible repeat (first | apply qA | apply qN | apply qD)); exact (Kd.R_mono (qF (p := ⟨gb395, 4, none⟩) (qF (p := ⟨gb395, 3, none⟩) (qF (p := ⟨gb395, 2, none⟩) (qF (p := ⟨gb395, 1, none⟩) (qF (p := ⟨gb395, 0, none⟩) (Kd.R_types HO380.out BK395.out (by decide)) (fun _ hk => hk.2) (.int .i64 t383)) (fun _ hk => hk.2) (.slice Ao26 t384.length co26)) (fun _ hk => hk.2) (.slice Ao27 t387.length co27)) (fun _ hk => hk.2) (.int .i64 t390)) (fun _ hk => hk.2) (.slice Ao28 t391.length co28)) (fun _ h_ => h_.1))) hb); have n6_ := qM (Kd.R_below (by (with_reducible repeat (first | apply qA | apply qN | apply qD)); exact (Kd.R_mono (qF (p := ⟨gb395, 4, none⟩) (qF (p := ⟨gb395, 3, none⟩) (qF (p := ⟨gb395, 2, none⟩) (qF (p := ⟨gb395, 1, none⟩) (qF (p := ⟨gb395, 0, none⟩) (Kd.R_types HO386.out BK395.out (by decide)) (fun _ hk => hk.2) (.int .i64 t383)) (fun _ hk => hk.2) (.slice Ao26 t384.length co26)) (fun _ hk => hk.2) (.slice Ao27 t387.length co27)) (fun _ hk => hk.2) (.int .i64 t390)) (fun _ hk => hk.2) (.slice Ao28 t391.length co28)) (fun _ h_ => h_.1))) hb); have n7_ := qM (Kd.R_below (by (with_reducible repeat (first | apply qA | apply qN | apply qD)); exact (Kd.R_mono (qF (p := ⟨gb395, 4, none⟩) (qF (p := ⟨gb395, 3, none⟩) (qF (p := ⟨gb395, 2, none⟩) (qF (p := ⟨gb395, 1, none⟩) (qF (p := ⟨gb395, 0, none⟩) (Kd.R_types HO389.out BK395.out (by decide)) (fun _ hk => hk.2) (.int .i64 t383)) (fun _ hk => hk.2) (.slice Ao26 t384.length co26)) (fun _ hk => hk.2) (.slice Ao27 t387.length co27)) (fun _ hk => hk.2) (.int .i64 t390)) (fun _ hk => hk.2) (.slice Ao28 t391.length co28)) (fun _ h_ => h_.1))) hb); have n8_ := qM (Kd.R_below (by (with_reducible repeat (first | apply qA | apply qN | apply qD)); exact (Kd.R_mono (qF (p := ⟨gb395, 4, none⟩) (qF (p := ⟨gb395, 3, none⟩) (qF (p := ⟨gb395, 2, none⟩) (qF (p := ⟨gb395, 1, none⟩) (qF (p := ⟨gb395, 0, none⟩) (Kd.R_types HO393.out BK395.out (by decide)) (fun _ hk => hk.2) (.int .i64 t383)) (fun _ hk => hk.2) (.slice Ao26 t384.length co26)) (fun _ hk => hk.2) (.slice Ao27 t387.length co27)) (fun _ hk => hk.2) (.int .i64 t390)) (fun _ hk => hk.2) (.slice Ao28 t391.length co28)) (fun _ h_ => h_.1))) hb); have n9_ := qM (blk_below (g := gb369) (o := .cells #[.int .i64 t357, .slice Ao10 t358.length co10, .slice Ao11 t361.length co11, .int .i64 t364, .slice Ao12 t365.length co12] 48 (0, 0)) (by (with_reducible repeat (first | refine zN ?_ _ | refine zD ?_ | refine zA ?_ _)); refine blk_far ?_ NB369_395.out _; (with_reducible repeat (first | refine zN ?_ _ | refine zD ?_ | refine zA ?_ _)); refine blk_far ?_ NB369_395.out _; (with_reducible repeat (first | refine zN ?_ _ | refine zD ?_ | refine zA ?_ _)); refine blk_far ?_ NB369_395.out _; (with_reducible repeat (first | refine zN ?_ _ | refine zD ?_ | refine zA ?_ _)); refine blk_far ?_ NB369_395.out _; (with_reducible repeat (first | refine zN ?_ _ | refine zD ?_ | refine zA ?_ _)); refine blk_far ?_ NB369_395.out _; (with_reducible repeat (first | refine zN ?_ _ | refine zD ?_ | refine zA ?_ _)); exact BK369.out) hb); have n10_ := qM (blk_below (g := gb382) (o := .cells #[.int .i64 t370, .slice Ao17 t371.length co17, .slice Ao18 t374.length co18, .int .i64 t377, .slice Ao19 t378.length co19] 48 (0, 0)) (by (with_reducible repeat (first | refine zN ?_ _ | refine zD ?_ | refine zA ?_ _)); refine blk_far ?_ NB382_395.out _; (with_reducible repeat (first | refine zN ?_ _ | refine zD ?_ | refine zA ?_ _)); refine blk_far ?_ NB382_395.out _; (with_reducible repeat (first | refine zN ?_ _ | refine zD ?_ | refine zA ?_ _)); refine blk_far ?_ NB382_395.out _; (with_reducible repeat (first | refine zN ?_ _ | refine zD ?_ | refine zA ?_ _)); refine blk_far ?_ NB382_395.out _; (with_reducible repeat (first | refine zN ?_ _ | refine zD ?_ | refine zA ?_ _)); refine blk_far ?_ NB382_395.out _; (with_reducible repeat (first | refine zN ?_ _ | refine zD ?_ | refine zA ?_ _)); exact BK382.out) hb); have n11_ := qM (blk_below (g := gb395) (o := .cells #[.int .i64 t383, .slice Ao26 t384.length co26, .slice Ao27 t387.length co27, .int .i64 t390, .slice Ao28 t391.length co28] 48 (0, 0)) (by (with_reducible repeat (first | refine zN ?_ _ | refine zD ?_ | refine zA ?_ _)); refine blk_put (cs := #[.int .i64 t383, .slice Ao26 t384.length co26, .slice Ao27 t387.length co27, .int .i64 t390, .slice none 0 0]) ?_ 4 _ rfl; (with_reducible repeat (first | refine zN ?_ _ | refine zD ?_ | refine zA ?_ _)); refine blk_put (cs := #[.int .i64 t383, .slice Ao26 t384.length co26, .slice Ao27 t387.length co27, .int .i64 0, .slice none 0 0]) ?_ 3 _ rfl; (with_reducible repeat (first | refine zN ?_ _ | refine zD ?_ | refine zA ?_ _)); refine blk_put (cs := #[.int .i64 t383, .slice Ao26 t384.length co26, .slice none 0 0, .int .i64 0, .slice none 0 0]) ?_ 2 _ rfl; (with_reducible repeat (first | refine zN ?_ _ | refine zD ?_ | refine zA ?_ _)); refine blk_put (cs := #[.int .i64 t383, .slice none 0 0, .slice none 0 0, .int .i64 0, .slice none 0 0]) ?_ 1 _ rfl; (with_reducible repeat (first | refine zN ?_ _ | refine zD ?_ | refine zA ?_ _)); refine blk_put (cs := #[.int .i64 0, .slice none 0 0, .slice none 0 0, .int .i64 0, .slice none 0 0]) ?_ 0 _ rfl; (with_reducible repeat (first | refine zN ?_ _ | refine zD ?_ | refine zA ?_ _)); exact BK395.out) hb); have n12_ := qM (below_step (by repeat (first | (with_reducible first | exact HB.out | apply yA | apply yN | apply yD | refine yS ?_ GE369.out | refine yS ?_ GE382.out | refine yS ?_ GE395.out) | exact HB.out)) hb); clear HO360; clear HO363; clear HO367; clear HO373; clear HO376; clear HO380; clear HO386; clear HO389; clear HO393; clear BK369; clear BK382; clear BK395; clear HB; have HO360 := n0_; have HO363 := n1_; have HO367 := n2_; have HO373 := n3_; have HO376 := n4_; have HO380 := n5_; have HO386 := n6_; have HO389 := n7_; have HO393 := n8_; have BK369 := n9_; have BK382 := n10_; have BK395 := n11_; have HB := n12_; clear n0_ n1_ n2_ n3_ n4_ n5_ n6_ n7_ n8_ n9_ n10_ n11_ n12_; (try clear hb); (try clear hb2); (try clear hk); (try clear hi)))
        go_meet
        case rel => exact ⟨_, (!t396), (by first | rfl | (simp; done) | (simp [*]; done)), H', ⟨by first | omega | exact Nat.le_refl _⟩, ⟨by (with_reducible repeat (first | apply qA | apply qN | apply qD)); exact Kd.R_mono HO360.out (fun _ hk => ⟨hk.1.1.1.1, ⟨hk.1.1.1.2, ⟨hk.1.1.2, ⟨hk.1.2, hk.2⟩⟩⟩⟩)⟩, ⟨by (with_reducible repeat (first | apply qA | apply qN | apply qD)); exact Kd.R_mono HO363.out (fun _ hk => ⟨hk.1.1.1.1, ⟨hk.1.1.1.2, ⟨hk.1.1.2, ⟨hk.1.2, hk.2⟩⟩⟩⟩)⟩, ⟨by (with_reducible repeat (first | apply qA | apply qN | apply qD)); exact Kd.R_mono HO367.out (fun _ hk => ⟨hk.1.2, hk.2⟩)⟩, ⟨by (with_reducible repeat (first | apply qA | apply qN | apply qD)); exact Kd.R_mono HO373.out (fun _ hk => ⟨hk.1.1.1.2, ⟨hk.1.1.2, ⟨hk.1.1.1.1, ⟨hk.1.2, hk.2⟩⟩⟩⟩)⟩, ⟨by (with_reducible repeat (first | apply qA | apply qN | apply qD)); exact Kd.R_mono HO376.out (fun _ hk => ⟨hk.1.1.1.2, ⟨hk.1.1.2, ⟨hk.1.1.1.1, ⟨hk.1.2, hk.2⟩⟩⟩⟩)⟩, ⟨by (with_reducible repeat (first | apply qA | apply qN | apply qD)); exact Kd.R_mono HO380.out (fun _ hk => ⟨hk.1.2, hk.2⟩)⟩, ⟨by (with_reducible repeat (first | apply qA | apply qN | apply qD)); exact Kd.R_mono HO386.out (fun _ hk => ⟨hk.1.1.1.2, ⟨hk.1.1.2, ⟨hk.1.2, ⟨hk.2, hk.1.1.1.1⟩⟩⟩⟩)⟩, ⟨by (with_reducible repeat (first | apply qA | apply qN | apply qD)); exact Kd.R_mono HO389.out (fun _ hk => ⟨hk.1.1.1.2, ⟨hk.1.1.2, ⟨hk.1.2, ⟨hk.2, hk.1.1.1.1⟩⟩⟩⟩)⟩, ⟨by (with_reducible repeat (first | apply qA | apply qN | apply qD)); exact Kd.R_mono HO393.out (fun _ hk => ⟨hk.1.2, hk.2⟩)⟩, ⟨by (with_reducible repeat (first | refine zN ?_ _ | refine zD ?_ | refine zA ?_ _)); exact BK369.out⟩, ⟨by (with_reducible repeat (first | refine zN ?_ _ | refine zD ?_ | refine zA ?_ _)); exact BK382.out⟩, ⟨by (with_reducible repeat (first | refine zN ?_ _ | refine zD ?_ | refine zA ?_ _)); exact BK395.out⟩, ⟨by repeat (first | (with_reducible first | exact HB.out | apply yA | apply yN | apply yD | refine yS ?_ GE369.out | refine yS ?_ GE382.out | refine yS ?_ GE395.out) | exact HB.out)⟩⟩
    case rest =>
      clear HC6
      try clear c1
      try clear c2
      try clear c2b0
      try clear c2b1
      try clear p2
      try clear c3
      try clear c4
      try clear c8
      try clear c15
      try clear c23
      try clear c24
      try clear c29
      try clear c29b0
      try clear c29b1
      try clear c29b2
      try clear c31
      try clear c32
      try clear c34
      try clear hcz16_0
      try clear hcz16_1
      try clear hcz16_2
      try clear hcz16_3
      try clear hcz16_4
      try clear hcz20_0
      try clear hcz20_1
      try clear hcz20_2
      try clear hcz20_3
      try clear hcz20_4
      try clear hcz25_0
      try clear hcz25_1
      try clear hcz25_2
      try clear hcz25_3
      try clear hcz25_4
      try clear hcz33_0
      try clear hcz33_1
      try clear hcz33_2
      try clear hcz33_3
      try clear hcz33_4
      try clear hcz35_0
      try clear hcz35_1
      try clear hcz35_2
      try clear hcz35_3
      try clear hcz35_4
      try clear hcz9_0
      try clear hcz9_1
      try clear hcz9_2
      try clear hcz9_3
      try clear hcz9_4
      try clear hfz16_0
      try clear hfz16_1
      try clear hfz16_2
      try clear hfz16_3
      try clear hfz16_4
      try clear hfz20_0
      try clear hfz20_1
      try clear hfz20_2
      try clear hfz20_3
      try clear hfz20_4
      try clear hfz25_0
      try clear hfz25_1
      try clear hfz25_2
      try clear hfz25_3
      try clear hfz25_4
      try clear hfz33_0
      try clear hfz33_1
      try clear hfz33_2
      try clear hfz33_3
      try clear hfz33_4
      try clear hfz35_0
      try clear hfz35_1
      try clear hfz35_2
      try clear hfz35_3
      try clear hfz35_4
      try clear hfz9_0
      try clear hfz9_1
      try clear hfz9_2
      try clear hfz9_3
      try clear hfz9_4
      obtain ⟨kq, x37_5, rfl, HA, HJ5, HO_370001, HO_370002, HO_370004, HO_383001, HO_383002, HO_383004, HO_396001, HO_396002, HO_396004, BK369, BK382, BK395, HB⟩ := hcut
      cases kq with
      | zero => exact absurd HA.out (by simp [laws_FnCelInput.j0])
      | succ kj5 =>
        have H := HA.out
        clear HA
        simp only [laws_FnCelInput.j0] at H
        by_cases c37 : x37_5 = true
        · subst c37
          have H1 : (some false) = some r := by rw [if_pos rfl] at H; exact H
          clear H
          have H := H1
          clear H1
          exact absurd ((Option.some.inj H).trans hr_) (by decide)
        · replace c37 := Bool.eq_false_iff.mpr c37
          subst c37
          have H1 : ((spec_CelOk.f kj5 t357 t358 t361 t364 t365).bind fun t397 => (if t397 = true then (if t368 < 0 then (laws_FnCelInput.j1 kj5 t368 t381 true t357 t358 t361 t364 t365 t370 t371 t374 t377 t378) else (laws_FnCelInput.j1 kj5 t368 t381 (decide (t368 > 255)) t357 t358 t361 t364 t365 t370 t371 t374 t377 t378)) else (laws_FnCelInput.j1 kj5 t368 t381 true t357 t358 t361 t364 t365 t370 t371 t374 t377 t378))) = some r := by rw [if_neg (show ¬ (false = true) by decide)] at H; exact H
          clear H
          have H := H1
          clear H1
          have HC38 := qM H
          clear H
          go_upto_region 8 with (fail)
          go_cut [48] (fun v48 wc => ∃ (kq : Nat) (x48_37 : Bool), v48 = .bool x48_37 ∧ Aside0 (laws_FnCelInput.j1 kq t368 t381 x48_37 t357 t358 t361 t364 t365 t370 t371 t374 t377 t378 = some r) ∧ Aside0 (kq ≤ kj5) ∧ Aside0 (Kd.R (Kd.int .i64) 3 wc w.heap.size (fun k_ => some k_ ≠ ((.slice Ao11 t361.length co11) : Value).ownBlock ∧ some k_ ≠ ((.slice Ao17 t371.length co17) : Value).ownBlock ∧ some k_ ≠ ((.slice Ao18 t374.length co18) : Value).ownBlock ∧ some k_ ≠ ((.slice Ao26 t384.length co26) : Value).ownBlock ∧ some k_ ≠ ((.slice Ao27 t387.length co27) : Value).ownBlock) (.slice Ao10 t358.length co10) t358) ∧ Aside0 (Kd.R (Kd.int .i64) 3 wc w.heap.size (fun k_ => some k_ ≠ ((.slice Ao10 t358.length co10) : Value).ownBlock ∧ some k_ ≠ ((.slice Ao17 t371.length co17) : Value).ownBlock ∧ some k_ ≠ ((.slice Ao18 t374.length co18) : Value).ownBlock ∧ some k_ ≠ ((.slice Ao26 t384.length co26) : Value).ownBlock ∧ some k_ ≠ ((.slice Ao27 t387.length co27) : Value).ownBlock) (.slice Ao11 t361.length co11) t361) ∧ Aside0 (Kd.R (Kd.int .u8) 5 wc w.heap.size (fun k_ => some k_ ≠ ((.slice Ao19 t378.length co19) : Value).ownBlock ∧ some k_ ≠ ((.slice Ao28 t391.length co28) : Value).ownBlock) (.slice Ao12 t365.length co12) t365) ∧ Aside0 (Kd.R (Kd.int .i64) 3 wc w.heap.size (fun k_ => some k_ ≠ ((.slice Ao10 t358.length co10) : Value).ownBlock ∧ some k_ ≠ ((.slice Ao11 t361.length co11) : Value).ownBlock ∧ some k_ ≠ ((.slice Ao18 t374.length co18) : Value).ownBlock ∧ some k_ ≠ ((.slice Ao26 t384.length co26) : Value).ownBlock ∧ some k_ ≠ ((.slice Ao27 t387.length co27) : Value).ownBlock) (.slice Ao17 t371.length co17) t371) ∧ Aside0 (Kd.R (Kd.int .i64) 3 wc w.heap.size (fun k_ => some k_ ≠ ((.slice Ao10 t358.length co10) : Value).ownBlock ∧ some k_ ≠ ((.slice Ao11 t361.length co11) : Value).ownBlock ∧ some k_ ≠ ((.slice Ao17 t371.length co17) : Value).ownBlock ∧ some k_ ≠ ((.slice Ao26 t384.length co26) : Value).ownBlock ∧ some k_ ≠ ((.slice Ao27 t387.length co27) : Value).ownBlock) (.slice Ao18 t374.length co18) t374) ∧ Aside0 (Kd.R (Kd.int .u8) 5 wc w.heap.size (fun k_ => some k_ ≠ ((.slice Ao12 t365.length co12) : Value).ownBlock ∧ some k_ ≠ ((.slice Ao28 t391.length co28) : Value).ownBlock) (.slice Ao19 t378.length co19) t378) ∧ Aside0 (Kd.R (Kd.int .i64) 3 wc w.heap.size (fun k_ => some k_ ≠ ((.slice Ao10 t358.length co10) : Value).ownBlock ∧ some k_ ≠ ((.slice Ao11 t361.length co11) : Value).ownBlock ∧ some k_ ≠ ((.slice Ao17 t371.length co17) : Value).ownBlock ∧ some k_ ≠ ((.slice Ao18 t374.length co18) : Value).ownBlock ∧ some k_ ≠ ((.slice Ao27 t387.length co27) : Value).ownBlock) (.slice Ao26 t384.length co26) t384) ∧ Aside0 (Kd.R (Kd.int .i64) 3 wc w.heap.size (fun k_ => some k_ ≠ ((.slice Ao10 t358.length co10) : Value).ownBlock ∧ some k_ ≠ ((.slice Ao11 t361.length co11) : Value).ownBlock ∧ some k_ ≠ ((.slice Ao17 t371.length co17) : Value).ownBlock ∧ some k_ ≠ ((.slice Ao18 t374.length co18) : Value).ownBlock ∧ some k_ ≠ ((.slice Ao26 t384.length co26) : Value).ownBlock) (.slice Ao27 t387.length co27) t387) ∧ Aside0 (Kd.R (Kd.int .u8) 5 wc w.heap.size (fun k_ => some k_ ≠ ((.slice Ao12 t365.length co12) : Value).ownBlock ∧ some k_ ≠ ((.slice Ao19 t378.length co19) : Value).ownBlock) (.slice Ao28 t391.length co28) t391) ∧ Aside0 (wc.heap[gb369]? = some (.cells #[.int .i64 t357, (.slice Ao10 t358.length co10), (.slice Ao11 t361.length co11), .int .i64 t364, (.slice Ao12 t365.length co12)] 48 (0, 0))) ∧ Aside0 (wc.heap[gb382]? = some (.cells #[.int .i64 t370, (.slice Ao17 t371.length co17), (.slice Ao18 t374.length co18), .int .i64 t377, (.slice Ao19 t378.length co19)] 48 (0, 0))) ∧ Aside0 (wc.heap[gb395]? = some (.cells #[.int .i64 t383, (.slice Ao26 t384.length co26), (.slice Ao27 t387.length co27), .int .i64 t390, (.slice Ao28 t391.length co28)] 48 (0, 0))) ∧ Aside0 (Below w.heap.size w wc))
          case first =>
            have H := HC38.out
            clear HC38
            replace H := Option.bind_eq_some_iff.mp H
            obtain ⟨t397, A390, H⟩ := H
            replace H : (if t397 = true then (if t368 < 0 then (laws_FnCelInput.j1 kj5 t368 t381 true t357 t358 t361 t364 t365 t370 t371 t374 t377 t378) else (laws_FnCelInput.j1 kj5 t368 t381 (decide (t368 > 255)) t357 t358 t361 t364 t365 t370 t371 t374 t377 t378)) else (laws_FnCelInput.j1 kj5 t368 t381 true t357 t358 t361 t364 t365 t370 t371 t374 t377 t378)) = some r := H
            have A39 := qM A390
            clear A390
            by_cases c40 : t397 = true
            · subst c40
              have H1 : (if t368 < 0 then (laws_FnCelInput.j1 kj5 t368 t381 true t357 t358 t361 t364 t365 t370 t371 t374 t377 t378) else (laws_FnCelInput.j1 kj5 t368 t381 (decide (t368 > 255)) t357 t358 t361 t364 t365 t370 t371 t374 t377 t378)) = some r := by rw [if_pos rfl] at H; exact H
              clear H
              have H := H1
              clear H1
              by_cases c41 : t368 < 0
              · rw [if_pos c41] at H
                have c41b0 : decide (t368 < 0) = true := decide_eq_true c41
                clear c41
                (first | rw [c41b0] | (simp only [i64_w, i32_w]; rw [c41b0]) | skip)
                have H' := qM H
                clear H
                have hnb42 := NB369_382.out
                have hnc42 := NB382_369.out
                have hnb43 := NB369_395.out
                have hnc43 := NB395_369.out
                have hcz44_0 : wc.cell? ⟨gb369, 0, none⟩ = some (.int .i64 t357) := (zC BK369.out 0).trans rfl
                have hcz44_1 : wc.cell? ⟨gb369, 1, none⟩ = some (.slice Ao10 t358.length co10) := (zC BK369.out 1).trans rfl
                have hcz44_2 : wc.cell? ⟨gb369, 2, none⟩ = some (.slice Ao11 t361.length co11) := (zC BK369.out 2).trans rfl
                have hcz44_3 : wc.cell? ⟨gb369, 3, none⟩ = some (.int .i64 t364) := (zC BK369.out 3).trans rfl
                have hcz44_4 : wc.cell? ⟨gb369, 4, none⟩ = some (.slice Ao12 t365.length co12) := (zC BK369.out 4).trans rfl
                have hfz44_0 := zF BK369.out 0
                have hfz44_1 := zF BK369.out 1
                have hfz44_2 := zF BK369.out 2
                have hfz44_3 := zF BK369.out 3
                have hfz44_4 := zF BK369.out 4
                go_wp2_with (first | ((with_reducible refine gate_callee (f := 35) rfl ?_); refine goesL_ (some 39) rfl rfl Try.func35 (by kernel_rfl) rfl #[.agg #[.int .i64 t357, .slice Ao10 t358.length co10, .slice Ao11 t361.length co11, .int .i64 t364, .slice Ao12 t365.length co12]] rfl (by (try simp only [List.map_toArray, List.map_cons, List.map_nil]); first | done | rfl | (simp only [List.length_drop, List.length_take]; rfl)) ?_; (with_reducible refine (spec_CelOk.calls kj5 t357 _ _ t358 _ _ t361 t364 _ _ t365 true _ ?side1 ?side2 ?side3 ?side4 ?side5 ?side6 A39.out).mono ?_); (case side1 => repeat (first | exact (qR HO_370001.out).2.2 | (with_reducible refine Kd.C_alloc ?_ _) | (with_reducible refine Kd.C_drewN ?_ _) | (with_reducible refine Kd.C_drew ?_))); (case side2 => exact (qR HO_370001.out).2.1); (case side3 => repeat (first | exact (qR HO_370002.out).2.2 | (with_reducible refine Kd.C_alloc ?_ _) | (with_reducible refine Kd.C_drewN ?_ _) | (with_reducible refine Kd.C_drew ?_))); (case side4 => exact (qR HO_370002.out).2.1); (case side5 => repeat (first | exact (qR HO_370004.out).2.2 | (with_reducible refine Kd.C_alloc ?_ _) | (with_reducible refine Kd.C_drewN ?_ _) | (with_reducible refine Kd.C_drew ?_))); (case side6 => exact (qR HO_370004.out).2.1); rintro e w45 ⟨rfl, hb⟩; refine ⟨_, rfl, ?_⟩; have n0_ := qM (Kd.R_below (by (with_reducible repeat (first | apply qA | apply qN | apply qD)); exact HO_370001.out) hb); have n1_ := qM (Kd.R_below (by (with_reducible repeat (first | apply qA | apply qN | apply qD)); exact HO_370002.out) hb); have n2_ := qM (Kd.R_below (by (with_reducible repeat (first | apply qA | apply qN | apply qD)); exact HO_370004.out) hb); have n3_ := qM (Kd.R_below (by (with_reducible repeat (first | apply qA | apply qN | apply qD)); exact HO_383001.out) hb); have n4_ := qM (Kd.R_below (by (with_reducible repeat (first | apply qA | apply qN | apply qD)); exact HO_383002.out) hb); have n5_ := qM (Kd.R_below (by (with_reducible repeat (first | apply qA | apply qN | apply qD)); exact HO_383004.out) hb); have n6_ := qM (Kd.R_below (by (with_reducible repeat (first | apply qA | apply qN | apply qD)); exact HO_396001.out) hb); have n7_ := qM (Kd.R_below (by (with_reducible repeat (first | apply qA | apply qN | apply qD)); exact HO_396002.out) hb); have n8_ := qM (Kd.R_below (by (with_reducible repeat (first | apply qA | apply qN | apply qD)); exact HO_396004.out) hb); have n9_ := qM (blk_below (g := gb369) (o := .cells #[.int .i64 t357, .slice Ao10 t358.length co10, .slice Ao11 t361.length co11, .int .i64 t364, .slice Ao12 t365.length co12] 48 (0, 0)) (by (with_reducible repeat (first | refine zN ?_ _ | refine zD ?_ | refine zA ?_ _)); exact BK369.out) hb); have n10_ := qM (blk_below (g := gb382) (o := .cells #[.int .i64 t370, .slice Ao17 t371.length co17, .slice Ao18 t374.length co18, .int .i64 t377, .slice Ao19 t378.length co19] 48 (0, 0)) (by (with_reducible repeat (first | refine zN ?_ _ | refine zD ?_ | refine zA ?_ _)); exact BK382.out) hb); have n11_ := qM (blk_below (g := gb395) (o := .cells #[.int .i64 t383, .slice Ao26 t384.length co26, .slice Ao27 t387.length co27, .int .i64 t390, .slice Ao28 t391.length co28] 48 (0, 0)) (by (with_reducible repeat (first | refine zN ?_ _ | refine zD ?_ | refine zA ?_ _)); exact BK395.out) hb); have n12_ := qM (below_step (by repeat (first | (with_reducible first | exact HB.out | apply yA | apply yN | apply yD | refine yS ?_ GE369.out | refine yS ?_ GE382.out | refine yS ?_ GE395.out) | exact HB.out)) hb); clear HO_370001; clear HO_370002; clear HO_370004; clear HO_383001; clear HO_383002; clear HO_383004; clear HO_396001; clear HO_396002; clear HO_396004; clear BK369; clear BK382; clear BK395; clear HB; have HO_370001 := n0_; have HO_370002 := n1_; have HO_370004 := n2_; have HO_383001 := n3_; have HO_383002 := n4_; have HO_383004 := n5_; have HO_396001 := n6_; have HO_396002 := n7_; have HO_396004 := n8_; have BK369 := n9_; have BK382 := n10_; have BK395 := n11_; have HB := n12_; clear n0_ n1_ n2_ n3_ n4_ n5_ n6_ n7_ n8_ n9_ n10_ n11_ n12_; (try clear hb); (try clear hb2); (try clear hk); (try clear hi)))
                go_meet
                case rel => exact ⟨_, (true), (by first | rfl | (simp; done) | (simp [*]; done)), H', ⟨by have := HJ5.out; first | omega | exact Nat.le_refl _⟩, ⟨by (with_reducible repeat (first | apply qA | apply qN | apply qD)); exact HO_370001.out⟩, ⟨by (with_reducible repeat (first | apply qA | apply qN | apply qD)); exact HO_370002.out⟩, ⟨by (with_reducible repeat (first | apply qA | apply qN | apply qD)); exact HO_370004.out⟩, ⟨by (with_reducible repeat (first | apply qA | apply qN | apply qD)); exact HO_383001.out⟩, ⟨by (with_reducible repeat (first | apply qA | apply qN | apply qD)); exact HO_383002.out⟩, ⟨by (with_reducible repeat (first | apply qA | apply qN | apply qD)); exact HO_383004.out⟩, ⟨by (with_reducible repeat (first | apply qA | apply qN | apply qD)); exact HO_396001.out⟩, ⟨by (with_reducible repeat (first | apply qA | apply qN | apply qD)); exact HO_396002.out⟩, ⟨by (with_reducible repeat (first | apply qA | apply qN | apply qD)); exact HO_396004.out⟩, ⟨by (with_reducible repeat (first | refine zN ?_ _ | refine zD ?_ | refine zA ?_ _)); exact BK369.out⟩, ⟨by (with_reducible repeat (first | refine zN ?_ _ | refine zD ?_ | refine zA ?_ _)); exact BK382.out⟩, ⟨by (with_reducible repeat (first | refine zN ?_ _ | refine zD ?_ | refine zA ?_ _)); exact BK395.out⟩, ⟨by repeat (first | (with_reducible first | exact HB.out | apply yA | apply yN | apply yD | refine yS ?_ GE369.out | refine yS ?_ GE382.out | refine yS ?_ GE395.out) | exact HB.out)⟩⟩
              · rw [if_neg c41] at H
                have c41b0 : decide (t368 < 0) = false := decide_eq_false c41
                clear c41
                (first | rw [c41b0] | (simp only [i64_w, i32_w]; rw [c41b0]) | skip)
                have H' := qM H
                clear H
                have hnb46 := NB369_382.out
                have hnc46 := NB382_369.out
                have hnb47 := NB369_395.out
                have hnc47 := NB395_369.out
                have hcz48_0 : wc.cell? ⟨gb369, 0, none⟩ = some (.int .i64 t357) := (zC BK369.out 0).trans rfl
                have hcz48_1 : wc.cell? ⟨gb369, 1, none⟩ = some (.slice Ao10 t358.length co10) := (zC BK369.out 1).trans rfl
                have hcz48_2 : wc.cell? ⟨gb369, 2, none⟩ = some (.slice Ao11 t361.length co11) := (zC BK369.out 2).trans rfl
                have hcz48_3 : wc.cell? ⟨gb369, 3, none⟩ = some (.int .i64 t364) := (zC BK369.out 3).trans rfl
                have hcz48_4 : wc.cell? ⟨gb369, 4, none⟩ = some (.slice Ao12 t365.length co12) := (zC BK369.out 4).trans rfl
                have hfz48_0 := zF BK369.out 0
                have hfz48_1 := zF BK369.out 1
                have hfz48_2 := zF BK369.out 2
                have hfz48_3 := zF BK369.out 3
                have hfz48_4 := zF BK369.out 4
                go_wp2_with (first | ((with_reducible refine gate_callee (f := 35) rfl ?_); refine goesL_ (some 39) rfl rfl Try.func35 (by kernel_rfl) rfl #[.agg #[.int .i64 t357, .slice Ao10 t358.length co10, .slice Ao11 t361.length co11, .int .i64 t364, .slice Ao12 t365.length co12]] rfl (by (try simp only [List.map_toArray, List.map_cons, List.map_nil]); first | done | rfl | (simp only [List.length_drop, List.length_take]; rfl)) ?_; (with_reducible refine (spec_CelOk.calls kj5 t357 _ _ t358 _ _ t361 t364 _ _ t365 true _ ?side1 ?side2 ?side3 ?side4 ?side5 ?side6 A39.out).mono ?_); (case side1 => repeat (first | exact (qR HO_370001.out).2.2 | (with_reducible refine Kd.C_alloc ?_ _) | (with_reducible refine Kd.C_drewN ?_ _) | (with_reducible refine Kd.C_drew ?_))); (case side2 => exact (qR HO_370001.out).2.1); (case side3 => repeat (first | exact (qR HO_370002.out).2.2 | (with_reducible refine Kd.C_alloc ?_ _) | (with_reducible refine Kd.C_drewN ?_ _) | (with_reducible refine Kd.C_drew ?_))); (case side4 => exact (qR HO_370002.out).2.1); (case side5 => repeat (first | exact (qR HO_370004.out).2.2 | (with_reducible refine Kd.C_alloc ?_ _) | (with_reducible refine Kd.C_drewN ?_ _) | (with_reducible refine Kd.C_drew ?_))); (case side6 => exact (qR HO_370004.out).2.1); rintro e w49 ⟨rfl, hb⟩; refine ⟨_, rfl, ?_⟩; have n0_ := qM (Kd.R_below (by (with_reducible repeat (first | apply qA | apply qN | apply qD)); exact HO_370001.out) hb); have n1_ := qM (Kd.R_below (by (with_reducible repeat (first | apply qA | apply qN | apply qD)); exact HO_370002.out) hb); have n2_ := qM (Kd.R_below (by (with_reducible repeat (first | apply qA | apply qN | apply qD)); exact HO_370004.out) hb); have n3_ := qM (Kd.R_below (by (with_reducible repeat (first | apply qA | apply qN | apply qD)); exact HO_383001.out) hb); have n4_ := qM (Kd.R_below (by (with_reducible repeat (first | apply qA | apply qN | apply qD)); exact HO_383002.out) hb); have n5_ := qM (Kd.R_below (by (with_reducible repeat (first | apply qA | apply qN | apply qD)); exact HO_383004.out) hb); have n6_ := qM (Kd.R_below (by (with_reducible repeat (first | apply qA | apply qN | apply qD)); exact HO_396001.out) hb); have n7_ := qM (Kd.R_below (by (with_reducible repeat (first | apply qA | apply qN | apply qD)); exact HO_396002.out) hb); have n8_ := qM (Kd.R_below (by (with_reducible repeat (first | apply qA | apply qN | apply qD)); exact HO_396004.out) hb); have n9_ := qM (blk_below (g := gb369) (o := .cells #[.int .i64 t357, .slice Ao10 t358.length co10, .slice Ao11 t361.length co11, .int .i64 t364, .slice Ao12 t365.length co12] 48 (0, 0)) (by (with_reducible repeat (first | refine zN ?_ _ | refine zD ?_ | refine zA ?_ _)); exact BK369.out) hb); have n10_ := qM (blk_below (g := gb382) (o := .cells #[.int .i64 t370, .slice Ao17 t371.length co17, .slice Ao18 t374.length co18, .int .i64 t377, .slice Ao19 t378.length co19] 48 (0, 0)) (by (with_reducible repeat (first | refine zN ?_ _ | refine zD ?_ | refine zA ?_ _)); exact BK382.out) hb); have n11_ := qM (blk_below (g := gb395) (o := .cells #[.int .i64 t383, .slice Ao26 t384.length co26, .slice Ao27 t387.length co27, .int .i64 t390, .slice Ao28 t391.length co28] 48 (0, 0)) (by (with_reducible repeat (first | refine zN ?_ _ | refine zD ?_ | refine zA ?_ _)); exact BK395.out) hb); have n12_ := qM (below_step (by repeat (first | (with_reducible first | exact HB.out | apply yA | apply yN | apply yD | refine yS ?_ GE369.out | refine yS ?_ GE382.out | refine yS ?_ GE395.out) | exact HB.out)) hb); clear HO_370001; clear HO_370002; clear HO_370004; clear HO_383001; clear HO_383002; clear HO_383004; clear HO_396001; clear HO_396002; clear HO_396004; clear BK369; clear BK382; clear BK395; clear HB; have HO_370001 := n0_; have HO_370002 := n1_; have HO_370004 := n2_; have HO_383001 := n3_; have HO_383002 := n4_; have HO_383004 := n5_; have HO_396001 := n6_; have HO_396002 := n7_; have HO_396004 := n8_; have BK369 := n9_; have BK382 := n10_; have BK395 := n11_; have HB := n12_; clear n0_ n1_ n2_ n3_ n4_ n5_ n6_ n7_ n8_ n9_ n10_ n11_ n12_; (try clear hb); (try clear hb2); (try clear hk); (try clear hi)))
                go_meet
                case rel => exact ⟨_, (decide (t368 > 255)), (by first | rfl | (simp; done) | (simp [*]; done)), H', ⟨by have := HJ5.out; first | omega | exact Nat.le_refl _⟩, ⟨by (with_reducible repeat (first | apply qA | apply qN | apply qD)); exact HO_370001.out⟩, ⟨by (with_reducible repeat (first | apply qA | apply qN | apply qD)); exact HO_370002.out⟩, ⟨by (with_reducible repeat (first | apply qA | apply qN | apply qD)); exact HO_370004.out⟩, ⟨by (with_reducible repeat (first | apply qA | apply qN | apply qD)); exact HO_383001.out⟩, ⟨by (with_reducible repeat (first | apply qA | apply qN | apply qD)); exact HO_383002.out⟩, ⟨by (with_reducible repeat (first | apply qA | apply qN | apply qD)); exact HO_383004.out⟩, ⟨by (with_reducible repeat (first | apply qA | apply qN | apply qD)); exact HO_396001.out⟩, ⟨by (with_reducible repeat (first | apply qA | apply qN | apply qD)); exact HO_396002.out⟩, ⟨by (with_reducible repeat (first | apply qA | apply qN | apply qD)); exact HO_396004.out⟩, ⟨by (with_reducible repeat (first | refine zN ?_ _ | refine zD ?_ | refine zA ?_ _)); exact BK369.out⟩, ⟨by (with_reducible repeat (first | refine zN ?_ _ | refine zD ?_ | refine zA ?_ _)); exact BK382.out⟩, ⟨by (with_reducible repeat (first | refine zN ?_ _ | refine zD ?_ | refine zA ?_ _)); exact BK395.out⟩, ⟨by repeat (first | (with_reducible first | exact HB.out | apply yA | apply yN | apply yD | refine yS ?_ GE369.out | refine yS ?_ GE382.out | refine yS ?_ GE395.out) | exact HB.out)⟩⟩
            · replace c40 := Bool.eq_false_iff.mpr c40
              subst c40
              have H1 : (laws_FnCelInput.j1 kj5 t368 t381 true t357 t358 t361 t364 t365 t370 t371 t374 t377 t378) = some r := by rw [if_neg (show ¬ (false = true) by decide)] at H; exact H
              clear H
              have H := H1
              clear H1
              have H' := qM H
              clear H
              have hnb50 := NB369_382.out
              have hnc50 := NB382_369.out
              have hnb51 := NB369_395.out
              have hnc51 := NB395_369.out
              have hcz52_0 : wc.cell? ⟨gb369, 0, none⟩ = some (.int .i64 t357) := (zC BK369.out 0).trans rfl
              have hcz52_1 : wc.cell? ⟨gb369, 1, none⟩ = some (.slice Ao10 t358.length co10) := (zC BK369.out 1).trans rfl
              have hcz52_2 : wc.cell? ⟨gb369, 2, none⟩ = some (.slice Ao11 t361.length co11) := (zC BK369.out 2).trans rfl
              have hcz52_3 : wc.cell? ⟨gb369, 3, none⟩ = some (.int .i64 t364) := (zC BK369.out 3).trans rfl
              have hcz52_4 : wc.cell? ⟨gb369, 4, none⟩ = some (.slice Ao12 t365.length co12) := (zC BK369.out 4).trans rfl
              have hfz52_0 := zF BK369.out 0
              have hfz52_1 := zF BK369.out 1
              have hfz52_2 := zF BK369.out 2
              have hfz52_3 := zF BK369.out 3
              have hfz52_4 := zF BK369.out 4
              go_wp2_with (first | ((with_reducible refine gate_callee (f := 35) rfl ?_); refine goesL_ (some 39) rfl rfl Try.func35 (by kernel_rfl) rfl #[.agg #[.int .i64 t357, .slice Ao10 t358.length co10, .slice Ao11 t361.length co11, .int .i64 t364, .slice Ao12 t365.length co12]] rfl (by (try simp only [List.map_toArray, List.map_cons, List.map_nil]); first | done | rfl | (simp only [List.length_drop, List.length_take]; rfl)) ?_; (with_reducible refine (spec_CelOk.calls kj5 t357 _ _ t358 _ _ t361 t364 _ _ t365 false _ ?side1 ?side2 ?side3 ?side4 ?side5 ?side6 A39.out).mono ?_); (case side1 => repeat (first | exact (qR HO_370001.out).2.2 | (with_reducible refine Kd.C_alloc ?_ _) | (with_reducible refine Kd.C_drewN ?_ _) | (with_reducible refine Kd.C_drew ?_))); (case side2 => exact (qR HO_370001.out).2.1); (case side3 => repeat (first | exact (qR HO_370002.out).2.2 | (with_reducible refine Kd.C_alloc ?_ _) | (with_reducible refine Kd.C_drewN ?_ _) | (with_reducible refine Kd.C_drew ?_))); (case side4 => exact (qR HO_370002.out).2.1); (case side5 => repeat (first | exact (qR HO_370004.out).2.2 | (with_reducible refine Kd.C_alloc ?_ _) | (with_reducible refine Kd.C_drewN ?_ _) | (with_reducible refine Kd.C_drew ?_))); (case side6 => exact (qR HO_370004.out).2.1); rintro e w53 ⟨rfl, hb⟩; refine ⟨_, rfl, ?_⟩; have n0_ := qM (Kd.R_below (by (with_reducible repeat (first | apply qA | apply qN | apply qD)); exact HO_370001.out) hb); have n1_ := qM (Kd.R_below (by (with_reducible repeat (first | apply qA | apply qN | apply qD)); exact HO_370002.out) hb); have n2_ := qM (Kd.R_below (by (with_reducible repeat (first | apply qA | apply qN | apply qD)); exact HO_370004.out) hb); have n3_ := qM (Kd.R_below (by (with_reducible repeat (first | apply qA | apply qN | apply qD)); exact HO_383001.out) hb); have n4_ := qM (Kd.R_below (by (with_reducible repeat (first | apply qA | apply qN | apply qD)); exact HO_383002.out) hb); have n5_ := qM (Kd.R_below (by (with_reducible repeat (first | apply qA | apply qN | apply qD)); exact HO_383004.out) hb); have n6_ := qM (Kd.R_below (by (with_reducible repeat (first | apply qA | apply qN | apply qD)); exact HO_396001.out) hb); have n7_ := qM (Kd.R_below (by (with_reducible repeat (first | apply qA | apply qN | apply qD)); exact HO_396002.out) hb); have n8_ := qM (Kd.R_below (by (with_reducible repeat (first | apply qA | apply qN | apply qD)); exact HO_396004.out) hb); have n9_ := qM (blk_below (g := gb369) (o := .cells #[.int .i64 t357, .slice Ao10 t358.length co10, .slice Ao11 t361.length co11, .int .i64 t364, .slice Ao12 t365.length co12] 48 (0, 0)) (by (with_reducible repeat (first | refine zN ?_ _ | refine zD ?_ | refine zA ?_ _)); exact BK369.out) hb); have n10_ := qM (blk_below (g := gb382) (o := .cells #[.int .i64 t370, .slice Ao17 t371.length co17, .slice Ao18 t374.length co18, .int .i64 t377, .slice Ao19 t378.length co19] 48 (0, 0)) (by (with_reducible repeat (first | refine zN ?_ _ | refine zD ?_ | refine zA ?_ _)); exact BK382.out) hb); have n11_ := qM (blk_below (g := gb395) (o := .cells #[.int .i64 t383, .slice Ao26 t384.length co26, .slice Ao27 t387.length co27, .int .i64 t390, .slice Ao28 t391.length co28] 48 (0, 0)) (by (with_reducible repeat (first | refine zN ?_ _ | refine zD ?_ | refine zA ?_ _)); exact BK395.out) hb); have n12_ := qM (below_step (by repeat (first | (with_reducible first | exact HB.out | apply yA | apply yN | apply yD | refine yS ?_ GE369.out | refine yS ?_ GE382.out | refine yS ?_ GE395.out) | exact HB.out)) hb); clear HO_370001; clear HO_370002; clear HO_370004; clear HO_383001; clear HO_383002; clear HO_383004; clear HO_396001; clear HO_396002; clear HO_396004; clear BK369; clear BK382; clear BK395; clear HB; have HO_370001 := n0_; have HO_370002 := n1_; have HO_370004 := n2_; have HO_383001 := n3_; have HO_383002 := n4_; have HO_383004 := n5_; have HO_396001 := n6_; have HO_396002 := n7_; have HO_396004 := n8_; have BK369 := n9_; have BK382 := n10_; have BK395 := n11_; have HB := n12_; clear n0_ n1_ n2_ n3_ n4_ n5_ n6_ n7_ n8_ n9_ n10_ n11_ n12_; (try clear hb); (try clear hb2); (try clear hk); (try clear hi)))
              go_meet
              case rel => exact ⟨_, (true), (by first | rfl | (simp; done) | (simp [*]; done)), H', ⟨by have := HJ5.out; first | omega | exact Nat.le_refl _⟩, ⟨by (with_reducible repeat (first | apply qA | apply qN | apply qD)); exact HO_370001.out⟩, ⟨by (with_reducible repeat (first | apply qA | apply qN | apply qD)); exact HO_370002.out⟩, ⟨by (with_reducible repeat (first | apply qA | apply qN | apply qD)); exact HO_370004.out⟩, ⟨by (with_reducible repeat (first | apply qA | apply qN | apply qD)); exact HO_383001.out⟩, ⟨by (with_reducible repeat (first | apply qA | apply qN | apply qD)); exact HO_383002.out⟩, ⟨by (with_reducible repeat (first | apply qA | apply qN | apply qD)); exact HO_383004.out⟩, ⟨by (with_reducible repeat (first | apply qA | apply qN | apply qD)); exact HO_396001.out⟩, ⟨by (with_reducible repeat (first | apply qA | apply qN | apply qD)); exact HO_396002.out⟩, ⟨by (with_reducible repeat (first | apply qA | apply qN | apply qD)); exact HO_396004.out⟩, ⟨by (with_reducible repeat (first | refine zN ?_ _ | refine zD ?_ | refine zA ?_ _)); exact BK369.out⟩, ⟨by (with_reducible repeat (first | refine zN ?_ _ | refine zD ?_ | refine zA ?_ _)); exact BK382.out⟩, ⟨by (with_reducible repeat (first | refine zN ?_ _ | refine zD ?_ | refine zA ?_ _)); exact BK395.out⟩, ⟨by repeat (first | (with_reducible first | exact HB.out | apply yA | apply yN | apply yD | refine yS ?_ GE369.out | refine yS ?_ GE382.out | refine yS ?_ GE395.out) | exact HB.out)⟩⟩
          case rest =>
            clear HC38
            try clear c1
            try clear c2
            try clear c2b0
            try clear c2b1
            try clear p2
            try clear c3
            try clear c4
            try clear c5
            try clear c8
            try clear c15
            try clear c23
            try clear c24
            try clear c29
            try clear c29b0
            try clear c29b1
            try clear c29b2
            try clear c31
            try clear c32
            try clear c34
            try clear c35
            try clear c37
            try clear c38
            try clear c39
            try clear c40
            try clear c41
            try clear c41b0
            try clear c42
            try clear c43
            try clear c46
            try clear c47
            try clear c50
            try clear c51
            try clear hcz16_0
            try clear hcz16_1
            try clear hcz16_2
            try clear hcz16_3
            try clear hcz16_4
            try clear hcz20_0
            try clear hcz20_1
            try clear hcz20_2
            try clear hcz20_3
            try clear hcz20_4
            try clear hcz25_0
            try clear hcz25_1
            try clear hcz25_2
            try clear hcz25_3
            try clear hcz25_4
            try clear hcz33_0
            try clear hcz33_1
            try clear hcz33_2
            try clear hcz33_3
            try clear hcz33_4
            try clear hcz35_0
            try clear hcz35_1
            try clear hcz35_2
            try clear hcz35_3
            try clear hcz35_4
            try clear hcz44_0
            try clear hcz44_1
            try clear hcz44_2
            try clear hcz44_3
            try clear hcz44_4
            try clear hcz48_0
            try clear hcz48_1
            try clear hcz48_2
            try clear hcz48_3
            try clear hcz48_4
            try clear hcz52_0
            try clear hcz52_1
            try clear hcz52_2
            try clear hcz52_3
            try clear hcz52_4
            try clear hcz9_0
            try clear hcz9_1
            try clear hcz9_2
            try clear hcz9_3
            try clear hcz9_4
            try clear hfz16_0
            try clear hfz16_1
            try clear hfz16_2
            try clear hfz16_3
            try clear hfz16_4
            try clear hfz20_0
            try clear hfz20_1
            try clear hfz20_2
            try clear hfz20_3
            try clear hfz20_4
            try clear hfz25_0
            try clear hfz25_1
            try clear hfz25_2
            try clear hfz25_3
            try clear hfz25_4
            try clear hfz33_0
            try clear hfz33_1
            try clear hfz33_2
            try clear hfz33_3
            try clear hfz33_4
            try clear hfz35_0
            try clear hfz35_1
            try clear hfz35_2
            try clear hfz35_3
            try clear hfz35_4
            try clear hfz44_0
            try clear hfz44_1
            try clear hfz44_2
            try clear hfz44_3
            try clear hfz44_4
            try clear hfz48_0
            try clear hfz48_1
            try clear hfz48_2
            try clear hfz48_3
            try clear hfz48_4
            try clear hfz52_0
            try clear hfz52_1
            try clear hfz52_2
            try clear hfz52_3
            try clear hfz52_4
            try clear hfz9_0
            try clear hfz9_1
            try clear hfz9_2
            try clear hfz9_3
            try clear hfz9_4
            try clear p2
            obtain ⟨kq, x48_37, rfl, HA, HJ37, HO_370001, HO_370002, HO_370004, HO_383001, HO_383002, HO_383004, HO_396001, HO_396002, HO_396004, BK369, BK382, BK395, HB⟩ := hcut
            cases kq with
            | zero => exact absurd HA.out (by simp [laws_FnCelInput.j1])
            | succ kj37 =>
              have H := HA.out
              clear HA
              simp only [laws_FnCelInput.j1] at H
              by_cases c54 : x48_37 = true
              · subst c54
                have H1 : (if t381 = true then (some false) else ((impl_CelNew.f).bind fun bt398 => ((impl_CelOk.f bt398.1 bt398.2.1 bt398.2.2.1 bt398.2.2.2.1 bt398.2.2.2.2).bind fun t409 => (some t409)))) = some r := by rw [if_pos rfl] at H; exact H
                clear H
                have H := H1
                clear H1
                by_cases c55 : t381 = true
                · subst c55
                  have H1 : (some false) = some r := by rw [if_pos rfl] at H; exact H
                  clear H
                  have H := H1
                  clear H1
                  exact absurd ((Option.some.inj H).trans hr_) (by decide)
                · replace c55 := Bool.eq_false_iff.mpr c55
                  subst c55
                  have H1 : ((impl_CelNew.f).bind fun bt398 => ((impl_CelOk.f bt398.1 bt398.2.1 bt398.2.2.1 bt398.2.2.2.1 bt398.2.2.2.2).bind fun t409 => (some t409))) = some r := by rw [if_neg (show ¬ (false = true) by decide)] at H; exact H
                  clear H
                  have H := H1
                  clear H1
                  replace H := Option.bind_eq_some_iff.mp H
                  obtain ⟨⟨t398, t399, t402, t405, t406⟩, A560, H⟩ := H
                  replace H : ((impl_CelOk.f t398 t399 t402 t405 t406).bind fun t409 => (some t409)) = some r := H
                  have A56 := qM A560
                  clear A560
                  replace H := Option.bind_eq_some_iff.mp H
                  obtain ⟨t409, A570, H⟩ := H
                  replace H : (some t409) = some r := H
                  have A57 := qM A570
                  clear A570
                  obtain rfl := Option.some.inj H
                  go_wp2_with (first | (go_at_call 30; (with_reducible refine (impl_CelNew.calls  t398 t399 t402 t405 t406 _ A56.out).mono ?_); rintro e w58 ⟨v400, v403, v407, rfl, ho0, ho1, ho2, hb⟩; have n0_ := qM (Kd.R_mono (Kd.R_told (Kd.R_told (Kd.R_old (by (with_reducible repeat (first | apply qA | apply qN | apply qD)); exact HO_370001.out) hb) (Kd.R_base ho0)) (Kd.R_base ho1)) (fun _ h_ => h_.1)); have n1_ := qM (Kd.R_mono (Kd.R_told (Kd.R_told (Kd.R_old (by (with_reducible repeat (first | apply qA | apply qN | apply qD)); exact HO_370002.out) hb) (Kd.R_base ho0)) (Kd.R_base ho1)) (fun _ h_ => h_.1)); have n2_ := qM (Kd.R_elder' (by (with_reducible repeat (first | apply qA | apply qN | apply qD)); exact HO_370004.out) (Kd.R_base ho2) hb); have n3_ := qM (Kd.R_mono (Kd.R_told (Kd.R_told (Kd.R_old (by (with_reducible repeat (first | apply qA | apply qN | apply qD)); exact HO_383001.out) hb) (Kd.R_base ho0)) (Kd.R_base ho1)) (fun _ h_ => h_.1)); have n4_ := qM (Kd.R_mono (Kd.R_told (Kd.R_told (Kd.R_old (by (with_reducible repeat (first | apply qA | apply qN | apply qD)); exact HO_383002.out) hb) (Kd.R_base ho0)) (Kd.R_base ho1)) (fun _ h_ => h_.1)); have n5_ := qM (Kd.R_elder' (by (with_reducible repeat (first | apply qA | apply qN | apply qD)); exact HO_383004.out) (Kd.R_base ho2) hb); have n6_ := qM (Kd.R_mono (Kd.R_told (Kd.R_told (Kd.R_old (by (with_reducible repeat (first | apply qA | apply qN | apply qD)); exact HO_396001.out) hb) (Kd.R_base ho0)) (Kd.R_base ho1)) (fun _ h_ => h_.1)); have n7_ := qM (Kd.R_mono (Kd.R_told (Kd.R_told (Kd.R_old (by (with_reducible repeat (first | apply qA | apply qN | apply qD)); exact HO_396002.out) hb) (Kd.R_base ho0)) (Kd.R_base ho1)) (fun _ h_ => h_.1)); have n8_ := qM (Kd.R_elder' (by (with_reducible repeat (first | apply qA | apply qN | apply qD)); exact HO_396004.out) (Kd.R_base ho2) hb); have n9_ := qM (Kd.R_lower (Kd.R_new' (Kd.R_new' (Kd.R_new' (Kd.R_new' (Kd.R_new' (Kd.R_new' ho0 (Kd.R_lt (by (with_reducible repeat (first | apply qA | apply qN | apply qD)); exact HO_370001.out))) (Kd.R_lt (by (with_reducible repeat (first | apply qA | apply qN | apply qD)); exact HO_370002.out))) (Kd.R_lt (by (with_reducible repeat (first | apply qA | apply qN | apply qD)); exact HO_383001.out))) (Kd.R_lt (by (with_reducible repeat (first | apply qA | apply qN | apply qD)); exact HO_383002.out))) (Kd.R_lt (by (with_reducible repeat (first | apply qA | apply qN | apply qD)); exact HO_396001.out))) (Kd.R_lt (by (with_reducible repeat (first | apply qA | apply qN | apply qD)); exact HO_396002.out))) (below_size (by repeat (first | (with_reducible first | exact HB.out | apply yA | apply yN | apply yD | refine yS ?_ GE369.out | refine yS ?_ GE382.out | refine yS ?_ GE395.out) | exact HB.out)))); have n10_ := qM (Kd.R_lower (Kd.R_new' (Kd.R_new' (Kd.R_new' (Kd.R_new' (Kd.R_new' (Kd.R_new' ho1 (Kd.R_lt (by (with_reducible repeat (first | apply qA | apply qN | apply qD)); exact HO_370001.out))) (Kd.R_lt (by (with_reducible repeat (first | apply qA | apply qN | apply qD)); exact HO_370002.out))) (Kd.R_lt (by (with_reducible repeat (first | apply qA | apply qN | apply qD)); exact HO_383001.out))) (Kd.R_lt (by (with_reducible repeat (first | apply qA | apply qN | apply qD)); exact HO_383002.out))) (Kd.R_lt (by (with_reducible repeat (first | apply qA | apply qN | apply qD)); exact HO_396001.out))) (Kd.R_lt (by (with_reducible repeat (first | apply qA | apply qN | apply qD)); exact HO_396002.out))) (below_size (by repeat (first | (with_reducible first | exact HB.out | apply yA | apply yN | apply yD | refine yS ?_ GE369.out | refine yS ?_ GE382.out | refine yS ?_ GE395.out) | exact HB.out)))); have n11_ := qM (Kd.R_lower (Kd.R_new' (Kd.R_new' (Kd.R_new' ho2 (Kd.R_lt (by (with_reducible repeat (first | apply qA | apply qN | apply qD)); exact HO_370004.out))) (Kd.R_lt (by (with_reducible repeat (first | apply qA | apply qN | apply qD)); exact HO_383004.out))) (Kd.R_lt (by (with_reducible repeat (first | apply qA | apply qN | apply qD)); exact HO_396004.out))) (below_size (by repeat (first | (with_reducible first | exact HB.out | apply yA | apply yN | apply yD | refine yS ?_ GE369.out | refine yS ?_ GE382.out | refine yS ?_ GE395.out) | exact HB.out)))); have n12_ := qM (blk_below (g := gb369) (o := .cells #[.int .i64 t357, .slice Ao10 t358.length co10, .slice Ao11 t361.length co11, .int .i64 t364, .slice Ao12 t365.length co12] 48 (0, 0)) (by (with_reducible repeat (first | refine zN ?_ _ | refine zD ?_ | refine zA ?_ _)); exact BK369.out) hb); have n13_ := qM (blk_below (g := gb382) (o := .cells #[.int .i64 t370, .slice Ao17 t371.length co17, .slice Ao18 t374.length co18, .int .i64 t377, .slice Ao19 t378.length co19] 48 (0, 0)) (by (with_reducible repeat (first | refine zN ?_ _ | refine zD ?_ | refine zA ?_ _)); exact BK382.out) hb); have n14_ := qM (blk_below (g := gb395) (o := .cells #[.int .i64 t383, .slice Ao26 t384.length co26, .slice Ao27 t387.length co27, .int .i64 t390, .slice Ao28 t391.length co28] 48 (0, 0)) (by (with_reducible repeat (first | refine zN ?_ _ | refine zD ?_ | refine zA ?_ _)); exact BK395.out) hb); have n15_ := qM (below_step (by repeat (first | (with_reducible first | exact HB.out | apply yA | apply yN | apply yD | refine yS ?_ GE369.out | refine yS ?_ GE382.out | refine yS ?_ GE395.out) | exact HB.out)) hb); clear HO_370001; clear HO_370002; clear HO_370004; clear HO_383001; clear HO_383002; clear HO_383004; clear HO_396001; clear HO_396002; clear HO_396004; clear BK369; clear BK382; clear BK395; clear HB; have HO_370001 := n0_; have HO_370002 := n1_; have HO_370004 := n2_; have HO_383001 := n3_; have HO_383002 := n4_; have HO_383004 := n5_; have HO_396001 := n6_; have HO_396002 := n7_; have HO_396004 := n8_; have HO401 := n9_; have HO404 := n10_; have HO408 := n11_; have BK369 := n12_; have BK382 := n13_; have BK395 := n14_; have HB := n15_; clear n0_ n1_ n2_ n3_ n4_ n5_ n6_ n7_ n8_ n9_ n10_ n11_ n12_ n13_ n14_ n15_; (try clear hb); (try clear hb2); (try clear hk); (try clear hi); (try clear ho0); (try clear ho1); (try clear ho2); obtain ⟨Ao59, co59, eo59⟩ := Kd.R_slice HO401.out; subst eo59; obtain ⟨Ao60, co60, eo60⟩ := Kd.R_slice HO404.out; subst eo60; obtain ⟨Ao61, co61, eo61⟩ := Kd.R_slice HO408.out; subst eo61) | (go_at_call 37; (with_reducible refine (impl_CelOk.calls t398 _ _ t399 _ _ t402 t405 _ _ t406 t409 _ ?side1 ?side2 ?side3 ?side4 ?side5 ?side6 A57.out).mono ?_); (case side1 => repeat (first | exact (qR HO401.out).2.2 | (with_reducible refine Kd.C_alloc ?_ _) | (with_reducible refine Kd.C_drewN ?_ _) | (with_reducible refine Kd.C_drew ?_))); (case side2 => exact (qR HO401.out).2.1); (case side3 => repeat (first | exact (qR HO404.out).2.2 | (with_reducible refine Kd.C_alloc ?_ _) | (with_reducible refine Kd.C_drewN ?_ _) | (with_reducible refine Kd.C_drew ?_))); (case side4 => exact (qR HO404.out).2.1); (case side5 => repeat (first | exact (qR HO408.out).2.2 | (with_reducible refine Kd.C_alloc ?_ _) | (with_reducible refine Kd.C_drewN ?_ _) | (with_reducible refine Kd.C_drew ?_))); (case side6 => exact (qR HO408.out).2.1); rintro e w62 ⟨rfl, hb⟩; have n0_ := qM (Kd.R_below (by (with_reducible repeat (first | apply qA | apply qN | apply qD)); exact HO_370001.out) hb); have n1_ := qM (Kd.R_below (by (with_reducible repeat (first | apply qA | apply qN | apply qD)); exact HO_370002.out) hb); have n2_ := qM (Kd.R_below (by (with_reducible repeat (first | apply qA | apply qN | apply qD)); exact HO_370004.out) hb); have n3_ := qM (Kd.R_below (by (with_reducible repeat (first | apply qA | apply qN | apply qD)); exact HO_383001.out) hb); have n4_ := qM (Kd.R_below (by (with_reducible repeat (first | apply qA | apply qN | apply qD)); exact HO_383002.out) hb); have n5_ := qM (Kd.R_below (by (with_reducible repeat (first | apply qA | apply qN | apply qD)); exact HO_383004.out) hb); have n6_ := qM (Kd.R_below (by (with_reducible repeat (first | apply qA | apply qN | apply qD)); exact HO_396001.out) hb); have n7_ := qM (Kd.R_below (by (with_reducible repeat (first | apply qA | apply qN | apply qD)); exact HO_396002.out) hb); have n8_ := qM (Kd.R_below (by (with_reducible repeat (first | apply qA | apply qN | apply qD)); exact HO_396004.out) hb); have n9_ := qM (Kd.R_below (by (with_reducible repeat (first | apply qA | apply qN | apply qD)); exact HO401.out) hb); have n10_ := qM (Kd.R_below (by (with_reducible repeat (first | apply qA | apply qN | apply qD)); exact HO404.out) hb); have n11_ := qM (Kd.R_below (by (with_reducible repeat (first | apply qA | apply qN | apply qD)); exact HO408.out) hb); have n12_ := qM (blk_below (g := gb369) (o := .cells #[.int .i64 t357, .slice Ao10 t358.length co10, .slice Ao11 t361.length co11, .int .i64 t364, .slice Ao12 t365.length co12] 48 (0, 0)) (by (with_reducible repeat (first | refine zN ?_ _ | refine zD ?_ | refine zA ?_ _)); exact BK369.out) hb); have n13_ := qM (blk_below (g := gb382) (o := .cells #[.int .i64 t370, .slice Ao17 t371.length co17, .slice Ao18 t374.length co18, .int .i64 t377, .slice Ao19 t378.length co19] 48 (0, 0)) (by (with_reducible repeat (first | refine zN ?_ _ | refine zD ?_ | refine zA ?_ _)); exact BK382.out) hb); have n14_ := qM (blk_below (g := gb395) (o := .cells #[.int .i64 t383, .slice Ao26 t384.length co26, .slice Ao27 t387.length co27, .int .i64 t390, .slice Ao28 t391.length co28] 48 (0, 0)) (by (with_reducible repeat (first | refine zN ?_ _ | refine zD ?_ | refine zA ?_ _)); exact BK395.out) hb); have n15_ := qM (below_step (by repeat (first | (with_reducible first | exact HB.out | apply yA | apply yN | apply yD | refine yS ?_ GE369.out | refine yS ?_ GE382.out | refine yS ?_ GE395.out) | exact HB.out)) hb); clear HO_370001; clear HO_370002; clear HO_370004; clear HO_383001; clear HO_383002; clear HO_383004; clear HO_396001; clear HO_396002; clear HO_396004; clear HO401; clear HO404; clear HO408; clear BK369; clear BK382; clear BK395; clear HB; have HO_370001 := n0_; have HO_370002 := n1_; have HO_370004 := n2_; have HO_383001 := n3_; have HO_383002 := n4_; have HO_383004 := n5_; have HO_396001 := n6_; have HO_396002 := n7_; have HO_396004 := n8_; have HO401 := n9_; have HO404 := n10_; have HO408 := n11_; have BK369 := n12_; have BK382 := n13_; have BK395 := n14_; have HB := n15_; clear n0_ n1_ n2_ n3_ n4_ n5_ n6_ n7_ n8_ n9_ n10_ n11_ n12_ n13_ n14_ n15_; (try clear hb); (try clear hb2); (try clear hk); (try clear hi)))
                  go_ret
                  exact ⟨by first | rfl | (simp [errW_none, errW_some] <;> rfl) | (simp [*, errW_none, errW_some] <;> rfl), by repeat (first | (with_reducible first | exact HB.out | apply yA | apply yN | apply yD | refine yS ?_ GE369.out | refine yS ?_ GE382.out | refine yS ?_ GE395.out) | exact HB.out)⟩
              · replace c54 := Bool.eq_false_iff.mpr c54
                subst c54
                have H1 : (if t381 = true then ((laws_caState.f kj37 t370 t371 t374 t377 t357 t358 t361 t364).bind fun t410 => (if t410 = true then ((some (([] : List Int) : List Int)).bind fun y411 => (if y411.length + t365.length < 140737488355328 then ((some (y411 ++ t365 : List Int)).bind fun y414 => ((some (([(t368) % 256] : List Int) : List Int)).bind fun y417 => (if y414.length + y417.length < 140737488355328 then ((laws_caBytes.f t378 (y414 ++ y417)).bind fun t423 => (some t423)) else (none)))) else (none))) else (some false))) else ((laws_caCell.f kj37 t370 t371 t374 t377 t378 t357 t358 t361 t364 t365).bind fun t424 => (if t424 = true then (some ((t365.length : Int) == 6)) else (some false)))) = some r := by rw [if_neg (show ¬ (false = true) by decide)] at H; exact H
                clear H
                have H := H1
                clear H1
                by_cases c63 : t381 = true
                · subst c63
                  have H1 : ((laws_caState.f kj37 t370 t371 t374 t377 t357 t358 t361 t364).bind fun t410 => (if t410 = true then ((some (([] : List Int) : List Int)).bind fun y411 => (if y411.length + t365.length < 140737488355328 then ((some (y411 ++ t365 : List Int)).bind fun y414 => ((some (([(t368) % 256] : List Int) : List Int)).bind fun y417 => (if y414.length + y417.length < 140737488355328 then ((laws_caBytes.f t378 (y414 ++ y417)).bind fun t423 => (some t423)) else (none)))) else (none))) else (some false))) = some r := by rw [if_pos rfl] at H; exact H
                  clear H
                  have H := H1
                  clear H1
                  replace H := Option.bind_eq_some_iff.mp H
                  obtain ⟨t410, A640, H⟩ := H
                  replace H : (if t410 = true then ((some (([] : List Int) : List Int)).bind fun y411 => (if y411.length + t365.length < 140737488355328 then ((some (y411 ++ t365 : List Int)).bind fun y414 => ((some (([(t368) % 256] : List Int) : List Int)).bind fun y417 => (if y414.length + y417.length < 140737488355328 then ((laws_caBytes.f t378 (y414 ++ y417)).bind fun t423 => (some t423)) else (none)))) else (none))) else (some false)) = some r := H
                  have A64 := qM A640
                  clear A640
                  by_cases c65 : t410 = true
                  · subst c65
                    have H1 : ((some (([] : List Int) : List Int)).bind fun y411 => (if y411.length + t365.length < 140737488355328 then ((some (y411 ++ t365 : List Int)).bind fun y414 => ((some (([(t368) % 256] : List Int) : List Int)).bind fun y417 => (if y414.length + y417.length < 140737488355328 then ((laws_caBytes.f t378 (y414 ++ y417)).bind fun t423 => (some t423)) else (none)))) else (none))) = some r := by rw [if_pos rfl] at H; exact H
                    clear H
                    have H := H1
                    clear H1
                    obtain ⟨y411, hy411⟩ : ∃ y_ : List Int, y_ = (([] : List Int)) := ⟨_, rfl⟩
                    replace H : (if y411.length + t365.length < 140737488355328 then ((some (y411 ++ t365 : List Int)).bind fun y414 => ((some (([(t368) % 256] : List Int) : List Int)).bind fun y417 => (if y414.length + y417.length < 140737488355328 then ((laws_caBytes.f t378 (y414 ++ y417)).bind fun t423 => (some t423)) else (none)))) else (none)) = some r := by first | (rw [hy411]; with_reducible exact H) | (have H2_ := (Option.bind_some _ _).symm.trans H; rw [hy411]; with_reducible exact H2_) | (have H2_ := (Option.bind_some _ _).symm.trans H; with_reducible exact H2_) | with_reducible exact H | (rw [hy411]; exact H) | exact H
                    have Ny411 := qM hy411
                    clear hy411
                    by_cases c66 : y411.length + t365.length < 140737488355328
                    · rw [if_pos c66] at H
                      have LMc66 := qM c66
                      clear c66
                      obtain ⟨y414, hy414⟩ : ∃ y_ : List Int, y_ = (y411 ++ t365) := ⟨_, rfl⟩
                      replace H : ((some (([(t368) % 256] : List Int) : List Int)).bind fun y417 => (if y414.length + y417.length < 140737488355328 then ((laws_caBytes.f t378 (y414 ++ y417)).bind fun t423 => (some t423)) else (none))) = some r := by first | (rw [hy414]; with_reducible exact H) | (have H2_ := (Option.bind_some _ _).symm.trans H; rw [hy414]; with_reducible exact H2_) | (have H2_ := (Option.bind_some _ _).symm.trans H; with_reducible exact H2_) | with_reducible exact H | (rw [hy414]; exact H) | exact H
                      have Ny414 := qM hy414
                      clear hy414
                      obtain ⟨y417, hy417⟩ : ∃ y_ : List Int, y_ = (([(t368) % 256] : List Int)) := ⟨_, rfl⟩
                      replace H : (if y414.length + y417.length < 140737488355328 then ((laws_caBytes.f t378 (y414 ++ y417)).bind fun t423 => (some t423)) else (none)) = some r := by first | (rw [hy417]; with_reducible exact H) | (have H2_ := (Option.bind_some _ _).symm.trans H; rw [hy417]; with_reducible exact H2_) | (have H2_ := (Option.bind_some _ _).symm.trans H; with_reducible exact H2_) | with_reducible exact H | (rw [hy417]; exact H) | exact H
                      have Ny417 := qM hy417
                      clear hy417
                      by_cases c67 : y414.length + y417.length < 140737488355328
                      · rw [if_pos c67] at H
                        have LMc67 := qM c67
                        clear c67
                        obtain ⟨y420, hy420⟩ : ∃ y_ : List Int, y_ = (y414 ++ y417) := ⟨_, rfl⟩
                        replace H : ((laws_caBytes.f t378 y420).bind fun t423 => (some t423)) = some r := by first | (rw [hy420]; with_reducible exact H) | (have H2_ := (Option.bind_some _ _).symm.trans H; rw [hy420]; with_reducible exact H2_) | (have H2_ := (Option.bind_some _ _).symm.trans H; with_reducible exact H2_) | with_reducible exact H | (rw [hy420]; exact H) | exact H
                        have Ny420 := qM hy420
                        clear hy420
                        replace H := Option.bind_eq_some_iff.mp H
                        obtain ⟨t423, A680, H⟩ := H
                        replace H : (some t423) = some r := H
                        have A68 := qM A680
                        clear A680
                        obtain rfl := Option.some.inj H
                        try go_wp2
                        have n0_ := qM (qD HO_370001.out)
                        have n1_ := qM (qD HO_370002.out)
                        have n2_ := qM (qD HO_370004.out)
                        have n3_ := qM (qD HO_383001.out)
                        have n4_ := qM (qD HO_383002.out)
                        have n5_ := qM (qD HO_383004.out)
                        have n6_ := qM (qD HO_396001.out)
                        have n7_ := qM (qD HO_396002.out)
                        have n8_ := qM (qD HO_396004.out)
                        have n9_ := qM (zD BK369.out)
                        have n10_ := qM (zD BK382.out)
                        have n11_ := qM (zD BK395.out)
                        have n12_ := qM (yD HB.out)
                        clear HO_370001
                        clear HO_370002
                        clear HO_370004
                        clear HO_383001
                        clear HO_383002
                        clear HO_383004
                        clear HO_396001
                        clear HO_396002
                        clear HO_396004
                        clear BK369
                        clear BK382
                        clear BK395
                        clear HB
                        have HO_370001 := n0_
                        have HO_370002 := n1_
                        have HO_370004 := n2_
                        have HO_383001 := n3_
                        have HO_383002 := n4_
                        have HO_383004 := n5_
                        have HO_396001 := n6_
                        have HO_396002 := n7_
                        have HO_396004 := n8_
                        have BK369 := n9_
                        have BK382 := n10_
                        have BK395 := n11_
                        have HB := n12_
                        clear n0_ n1_ n2_ n3_ n4_ n5_ n6_ n7_ n8_ n9_ n10_ n11_ n12_
                        refine start_ (n := 19) (S := fun w' => w'.cell? ⟨gb382, 0, none⟩ = some (.int .i64 t370) ∧ w'.cell? ⟨gb382, 1, none⟩ = some (.slice Ao17 t371.length co17) ∧ w'.cell? ⟨gb382, 2, none⟩ = some (.slice Ao18 t374.length co18) ∧ w'.cell? ⟨gb382, 3, none⟩ = some (.int .i64 t377) ∧ w'.cell? ⟨gb382, 4, none⟩ = some (.slice Ao19 t378.length co19) ∧ w'.cell? ⟨gb369, 0, none⟩ = some (.int .i64 t357) ∧ w'.cell? ⟨gb369, 1, none⟩ = some (.slice Ao10 t358.length co10) ∧ w'.cell? ⟨gb369, 2, none⟩ = some (.slice Ao11 t361.length co11) ∧ w'.cell? ⟨gb369, 3, none⟩ = some (.int .i64 t364) ∧ w'.cell? ⟨gb369, 4, none⟩ = some (.slice Ao12 t365.length co12)) (ds := []) #[false, false, false, false, false, false, false, false, false, false, false, false, false, false, false, false, false, false, false] (by kernel_rfl) rfl rfl ⟨(zC BK382.out 0).trans rfl, (zC BK382.out 1).trans rfl, (zC BK382.out 2).trans rfl, (zC BK382.out 3).trans rfl, (zC BK382.out 4).trans rfl, (zC BK369.out 0).trans rfl, (zC BK369.out 1).trans rfl, (zC BK369.out 2).trans rfl, (zC BK369.out 3).trans rfl, (zC BK369.out 4).trans rfl⟩ (fun hHeld => ?_); refine with_tabW laws_FnCelInput.tab12 laws_FnCelInput.bits12 (fun HT_ HW_ => ?_)
                        generalize wc.drew = w69 at HO_370001 HO_370002 HO_370004 HO_383001 HO_383002 HO_383004 HO_396001 HO_396002 HO_396004 BK369 BK382 BK395 HB hHeld ⊢
                        refine pure_ (i := 0) (N := some 66) (v := ?_) (a' := ?_) #[true, false, false, false, false, false, false, false, false, false, false, false, false, false, false, false, false, false, false] rfl rfl (any_of HT_.out (by kernel_rfl)) (fun _ _ _ h => h) (Or.inl ⟨by rfl, ?_⟩) ?_ ?_
                        rotate_left
                        · intro w'
                          go_simp
                          with_reducible rfl
                        rotate_left
                        · simp only [Act.put, List.setIfInBounds_toArray, List.set_cons_zero, List.set_cons_succ, i64_w, i32_w]
                          rfl
                        refine pure_ (i := 2) (N := some 68) (v := ?_) (a' := ?_) #[true, false, true, false, false, false, false, false, false, false, false, false, false, false, false, false, false, false, false] rfl rfl (any_of HT_.out (by kernel_rfl)) (fun _ _ _ h => h) (Or.inl ⟨by rfl, ?_⟩) ?_ ?_
                        rotate_left
                        · intro w'
                          go_simp
                          with_reducible rfl
                        rotate_left
                        · simp only [Act.put, List.setIfInBounds_toArray, List.set_cons_zero, List.set_cons_succ, i64_w, i32_w]
                          rfl
                        refine take_ (i := 1) (N := some 67) (v := ?_) (a' := ?_) #[true, true, true, false, false, false, false, false, false, false, false, false, false, false, false, false, false, false, false] rfl rfl (take_ofW HT_.out HW_.out (by kernel_rfl)) (fun _ _ _ h => h) (Or.inl ⟨by rfl, ?_⟩) hHeld ?_ ?_
                        rotate_left
                        · rintro w' ⟨s0, s1, s2, s3, s4, s5, s6, s7, s8, s9⟩
                          go_simp
                          with_reducible rfl
                        rotate_left
                        · simp only [Act.put, List.setIfInBounds_toArray, List.set_cons_zero, List.set_cons_succ, i64_w, i32_w]
                          rfl
                        refine take_ (i := 3) (N := some 69) (v := ?_) (a' := ?_) #[true, true, true, true, false, false, false, false, false, false, false, false, false, false, false, false, false, false, false] rfl rfl (take_ofW HT_.out HW_.out (by kernel_rfl)) (fun _ _ _ h => h) (Or.inl ⟨by rfl, ?_⟩) hHeld ?_ ?_
                        rotate_left
                        · rintro w' ⟨s0, s1, s2, s3, s4, s5, s6, s7, s8, s9⟩
                          go_simp
                          with_reducible rfl
                        rotate_left
                        · simp only [Act.put, List.setIfInBounds_toArray, List.set_cons_zero, List.set_cons_succ, i64_w, i32_w]
                          rfl
                        refine one_ (i := 4) (N := some 70) #[true, true, true, true, true, false, false, false, false, false, false, false, false, false, false, false, false, false, false] rfl rfl (one_of HT_.out (by kernel_rfl)) (by decide) (fun K hK => ?_)
                        refine goes_ Try.func42 (by kernel_rfl) rfl #[.agg #[.int .i64 t370, .slice Ao17 t371.length co17, .slice Ao18 t374.length co18, .int .i64 t377], .agg #[.int .i64 t357, .slice Ao10 t358.length co10, .slice Ao11 t361.length co11, .int .i64 t364]] (by rfl) rfl rfl (by (try simp only [List.map_toArray, List.map_cons, List.map_nil]); first | done | rfl | (simp only [List.length_drop, List.length_take]; rfl)) ?_
                        with_reducible refine (laws_caState.calls kj37 t370 _ _ t371 _ _ t374 t377 t357 _ _ t358 _ _ t361 t364 true _ ?side1 ?side2 ?side3 ?side4 ?side5 ?side6 ?side7 ?side8 A64.out).mono ?_
                        (case side1 => repeat (first | exact (qR HO_383001.out).2.2 | (with_reducible refine Kd.C_alloc ?_ _) | (with_reducible refine Kd.C_drewN ?_ _) | (with_reducible refine Kd.C_drew ?_)))
                        (case side2 => exact (qR HO_383001.out).2.1)
                        (case side3 => repeat (first | exact (qR HO_383002.out).2.2 | (with_reducible refine Kd.C_alloc ?_ _) | (with_reducible refine Kd.C_drewN ?_ _) | (with_reducible refine Kd.C_drew ?_)))
                        (case side4 => exact (qR HO_383002.out).2.1)
                        (case side5 => repeat (first | exact (qR HO_370001.out).2.2 | (with_reducible refine Kd.C_alloc ?_ _) | (with_reducible refine Kd.C_drewN ?_ _) | (with_reducible refine Kd.C_drew ?_)))
                        (case side6 => exact (qR HO_370001.out).2.1)
                        (case side7 => repeat (first | exact (qR HO_370002.out).2.2 | (with_reducible refine Kd.C_alloc ?_ _) | (with_reducible refine Kd.C_drewN ?_ _) | (with_reducible refine Kd.C_drew ?_)))
                        (case side8 => exact (qR HO_370002.out).2.1)
                        rintro e w70 ⟨rfl, hb⟩
                        refine ⟨_, rfl, ?_⟩
                        have n0_ := qM (Kd.R_below (by (with_reducible repeat (first | apply qA | apply qN | apply qD)); exact HO_370001.out) hb)
                        have n1_ := qM (Kd.R_below (by (with_reducible repeat (first | apply qA | apply qN | apply qD)); exact HO_370002.out) hb)
                        have n2_ := qM (Kd.R_below (by (with_reducible repeat (first | apply qA | apply qN | apply qD)); exact HO_370004.out) hb)
                        have n3_ := qM (Kd.R_below (by (with_reducible repeat (first | apply qA | apply qN | apply qD)); exact HO_383001.out) hb)
                        have n4_ := qM (Kd.R_below (by (with_reducible repeat (first | apply qA | apply qN | apply qD)); exact HO_383002.out) hb)
                        have n5_ := qM (Kd.R_below (by (with_reducible repeat (first | apply qA | apply qN | apply qD)); exact HO_383004.out) hb)
                        have n6_ := qM (Kd.R_below (by (with_reducible repeat (first | apply qA | apply qN | apply qD)); exact HO_396001.out) hb)
                        have n7_ := qM (Kd.R_below (by (with_reducible repeat (first | apply qA | apply qN | apply qD)); exact HO_396002.out) hb)
                        have n8_ := qM (Kd.R_below (by (with_reducible repeat (first | apply qA | apply qN | apply qD)); exact HO_396004.out) hb)
                        have n9_ := qM (blk_below (g := gb369) (o := .cells #[.int .i64 t357, .slice Ao10 t358.length co10, .slice Ao11 t361.length co11, .int .i64 t364, .slice Ao12 t365.length co12] 48 (0, 0)) (by (with_reducible repeat (first | refine zN ?_ _ | refine zD ?_ | refine zA ?_ _)); exact BK369.out) hb)
                        have n10_ := qM (blk_below (g := gb382) (o := .cells #[.int .i64 t370, .slice Ao17 t371.length co17, .slice Ao18 t374.length co18, .int .i64 t377, .slice Ao19 t378.length co19] 48 (0, 0)) (by (with_reducible repeat (first | refine zN ?_ _ | refine zD ?_ | refine zA ?_ _)); exact BK382.out) hb)
                        have n11_ := qM (blk_below (g := gb395) (o := .cells #[.int .i64 t383, .slice Ao26 t384.length co26, .slice Ao27 t387.length co27, .int .i64 t390, .slice Ao28 t391.length co28] 48 (0, 0)) (by (with_reducible repeat (first | refine zN ?_ _ | refine zD ?_ | refine zA ?_ _)); exact BK395.out) hb)
                        have n12_ := qM (below_step (by repeat (first | (with_reducible first | exact HB.out | apply yA | apply yN | apply yD | refine yS ?_ GE369.out | refine yS ?_ GE382.out | refine yS ?_ GE395.out) | exact HB.out)) hb)
                        clear HO_370001
                        clear HO_370002
                        clear HO_370004
                        clear HO_383001
                        clear HO_383002
                        clear HO_383004
                        clear HO_396001
                        clear HO_396002
                        clear HO_396004
                        clear BK369
                        clear BK382
                        clear BK395
                        clear HB
                        have HO_370001 := n0_
                        have HO_370002 := n1_
                        have HO_370004 := n2_
                        have HO_383001 := n3_
                        have HO_383002 := n4_
                        have HO_383004 := n5_
                        have HO_396001 := n6_
                        have HO_396002 := n7_
                        have HO_396004 := n8_
                        have BK369 := n9_
                        have BK382 := n10_
                        have BK395 := n11_
                        have HB := n12_
                        clear n0_ n1_ n2_ n3_ n4_ n5_ n6_ n7_ n8_ n9_ n10_ n11_ n12_
                        (try clear hb)
                        (try clear hb2)
                        (try clear hk)
                        (try clear hi)
                        refine hK.out _ _ ⟨(zC BK382.out 0).trans rfl, (zC BK382.out 1).trans rfl, (zC BK382.out 2).trans rfl, (zC BK382.out 3).trans rfl, (zC BK382.out 4).trans rfl, (zC BK369.out 0).trans rfl, (zC BK369.out 1).trans rfl, (zC BK369.out 2).trans rfl, (zC BK369.out 3).trans rfl, (zC BK369.out 4).trans rfl⟩ (fun hHeld => ?_)
                        clear hK K
                        refine norm_ (a' := ?_) ?_ ?_
                        rotate_left
                        · show Act.put _ (some 70) _ = _
                          simp only [Act.put, List.setIfInBounds_toArray, List.set_cons_zero, List.set_cons_succ, i64_w, i32_w]
                          rfl
                        refine pure_ (i := 5) (N := some 71) (v := ?_) (a' := ?_) #[true, true, true, true, true, true, false, false, false, false, false, false, false, false, false, false, false, false, false] rfl rfl (any_of HT_.out (by kernel_rfl)) (fun _ _ _ h => h) (Or.inl ⟨by rfl, ?_⟩) ?_ ?_
                        rotate_left
                        · intro w'
                          go_simp
                          with_reducible rfl
                        rotate_left
                        · simp only [Act.put, List.setIfInBounds_toArray, List.set_cons_zero, List.set_cons_succ, i64_w, i32_w]
                          rfl
                        refine pure_ (i := 6) (N := some 72) (v := ?_) (a' := ?_) #[true, true, true, true, true, true, true, false, false, false, false, false, false, false, false, false, false, false, false] rfl rfl (any_of HT_.out (by kernel_rfl)) (fun _ _ _ h => h) (Or.inl ⟨by rfl, ?_⟩) ?_ ?_
                        rotate_left
                        · intro w'
                          go_simp
                          with_reducible rfl
                        rotate_left
                        · simp only [Act.put, List.setIfInBounds_toArray, List.set_cons_zero, List.set_cons_succ, i64_w, i32_w]
                          rfl
                        refine pure_ (i := 9) (N := some 75) (v := ?_) (a' := ?_) #[true, true, true, true, true, true, true, false, false, true, false, false, false, false, false, false, false, false, false] rfl rfl (any_of HT_.out (by kernel_rfl)) (fun _ _ _ h => h) (Or.inl ⟨by rfl, ?_⟩) ?_ ?_
                        rotate_left
                        · intro w'
                          go_simp
                          with_reducible rfl
                        rotate_left
                        · simp only [Act.put, List.setIfInBounds_toArray, List.set_cons_zero, List.set_cons_succ, i64_w, i32_w]
                          rfl
                        refine pure_ (i := 12) (N := some 78) (v := ?_) (a' := ?_) #[true, true, true, true, true, true, true, false, false, true, false, false, true, false, false, false, false, false, false] rfl rfl (any_of HT_.out (by kernel_rfl)) (fun _ _ _ h => h) (Or.inl ⟨by rfl, ?_⟩) ?_ ?_
                        rotate_left
                        · intro w'
                          go_simp
                          with_reducible rfl
                        rotate_left
                        · simp only [Act.put, List.setIfInBounds_toArray, List.set_cons_zero, List.set_cons_succ, i64_w, i32_w]
                          rfl
                        refine pure_ (i := 13) (N := some 79) (v := ?_) (a' := ?_) #[true, true, true, true, true, true, true, false, false, true, false, false, true, true, false, false, false, false, false] rfl rfl (any_of HT_.out (by kernel_rfl)) (fun _ _ _ h => h) (Or.inl ⟨by rfl, ?_⟩) ?_ ?_
                        rotate_left
                        · intro w'
                          go_simp
                          with_reducible rfl
                        rotate_left
                        · simp only [Act.put, List.setIfInBounds_toArray, List.set_cons_zero, List.set_cons_succ, i64_w, i32_w]
                          rfl
                        refine take_ (i := 7) (N := some 73) (v := ?_) (a' := ?_) #[true, true, true, true, true, true, true, true, false, true, false, false, true, true, false, false, false, false, false] rfl rfl (take_ofW HT_.out HW_.out (by kernel_rfl)) (fun _ _ _ h => h) (Or.inl ⟨by rfl, ?_⟩) hHeld ?_ ?_
                        rotate_left
                        · rintro w' ⟨s0, s1, s2, s3, s4, s5, s6, s7, s8, s9⟩
                          go_simp
                          with_reducible rfl
                        rotate_left
                        · simp only [Act.put, List.setIfInBounds_toArray, List.set_cons_zero, List.set_cons_succ, i64_w, i32_w]
                          rfl
                        refine take_ (i := 10) (N := some 76) (v := ?_) (a' := ?_) #[true, true, true, true, true, true, true, true, false, true, true, false, true, true, false, false, false, false, false] rfl rfl (take_ofW HT_.out HW_.out (by kernel_rfl)) (fun _ _ _ h => h) (Or.inl ⟨by rfl, ?_⟩) hHeld ?_ ?_
                        rotate_left
                        · rintro w' ⟨s0, s1, s2, s3, s4, s5, s6, s7, s8, s9⟩
                          go_simp
                          with_reducible rfl
                        rotate_left
                        · simp only [Act.put, List.setIfInBounds_toArray, List.set_cons_zero, List.set_cons_succ, i64_w, i32_w]
                          rfl
                        refine join_ (σ := Value × Value × Value) 4 #[true, true, true, true, true, true, true, true, true, true, true, true, true, true, true, false, false, false, false] (fun s_ => [(74, s_.1), (77, s_.2.1), (80, s_.2.2)]) (fun s_ w' => (w'.cell? ⟨gb382, 0, none⟩ = some (.int .i64 t370) ∧ w'.cell? ⟨gb382, 1, none⟩ = some (.slice Ao17 t371.length co17) ∧ w'.cell? ⟨gb382, 2, none⟩ = some (.slice Ao18 t374.length co18) ∧ w'.cell? ⟨gb382, 3, none⟩ = some (.int .i64 t377) ∧ w'.cell? ⟨gb382, 4, none⟩ = some (.slice Ao19 t378.length co19) ∧ w'.cell? ⟨gb369, 0, none⟩ = some (.int .i64 t357) ∧ w'.cell? ⟨gb369, 1, none⟩ = some (.slice Ao10 t358.length co10) ∧ w'.cell? ⟨gb369, 2, none⟩ = some (.slice Ao11 t361.length co11) ∧ w'.cell? ⟨gb369, 3, none⟩ = some (.int .i64 t364) ∧ w'.cell? ⟨gb369, 4, none⟩ = some (.slice Ao12 t365.length co12)) ∧ (Kd.R (Kd.int .u8) 5 w' w.heap.size (fun k_ => some k_ ≠ (s_.2.2 : Value).ownBlock ∧ some k_ ≠ (.slice Ao12 t365.length co12 : Value).ownBlock ∧ some k_ ≠ (.slice Ao19 t378.length co19 : Value).ownBlock ∧ some k_ ≠ (.slice Ao28 t391.length co28 : Value).ownBlock) s_.2.1 y414) ∧ (Kd.R (Kd.int .u8) 5 w' w.heap.size (fun k_ => some k_ ≠ (s_.2.1 : Value).ownBlock ∧ some k_ ≠ (.slice Ao12 t365.length co12 : Value).ownBlock ∧ some k_ ≠ (.slice Ao19 t378.length co19 : Value).ownBlock ∧ some k_ ≠ (.slice Ao28 t391.length co28 : Value).ownBlock) s_.2.2 y417) ∧ (Kd.R (Kd.int .i64) 3 w' w.heap.size (fun k_ => some k_ ≠ (.slice Ao11 t361.length co11 : Value).ownBlock ∧ some k_ ≠ (.slice Ao17 t371.length co17 : Value).ownBlock ∧ some k_ ≠ (.slice Ao18 t374.length co18 : Value).ownBlock ∧ some k_ ≠ (.slice Ao26 t384.length co26 : Value).ownBlock ∧ some k_ ≠ (.slice Ao27 t387.length co27 : Value).ownBlock) (.slice Ao10 t358.length co10) t358) ∧ (Kd.R (Kd.int .i64) 3 w' w.heap.size (fun k_ => some k_ ≠ (.slice Ao10 t358.length co10 : Value).ownBlock ∧ some k_ ≠ (.slice Ao17 t371.length co17 : Value).ownBlock ∧ some k_ ≠ (.slice Ao18 t374.length co18 : Value).ownBlock ∧ some k_ ≠ (.slice Ao26 t384.length co26 : Value).ownBlock ∧ some k_ ≠ (.slice Ao27 t387.length co27 : Value).ownBlock) (.slice Ao11 t361.length co11) t361) ∧ (Kd.R (Kd.int .u8) 5 w' w.heap.size (fun k_ => some k_ ≠ (s_.2.1 : Value).ownBlock ∧ some k_ ≠ (s_.2.2 : Value).ownBlock ∧ some k_ ≠ (.slice Ao19 t378.length co19 : Value).ownBlock ∧ some k_ ≠ (.slice Ao28 t391.length co28 : Value).ownBlock) (.slice Ao12 t365.length co12) t365) ∧ (Kd.R (Kd.int .i64) 3 w' w.heap.size (fun k_ => some k_ ≠ (.slice Ao10 t358.length co10 : Value).ownBlock ∧ some k_ ≠ (.slice Ao11 t361.length co11 : Value).ownBlock ∧ some k_ ≠ (.slice Ao18 t374.length co18 : Value).ownBlock ∧ some k_ ≠ (.slice Ao26 t384.length co26 : Value).ownBlock ∧ some k_ ≠ (.slice Ao27 t387.length co27 : Value).ownBlock) (.slice Ao17 t371.length co17) t371) ∧ (Kd.R (Kd.int .i64) 3 w' w.heap.size (fun k_ => some k_ ≠ (.slice Ao10 t358.length co10 : Value).ownBlock ∧ some k_ ≠ (.slice Ao11 t361.length co11 : Value).ownBlock ∧ some k_ ≠ (.slice Ao17 t371.length co17 : Value).ownBlock ∧ some k_ ≠ (.slice Ao26 t384.length co26 : Value).ownBlock ∧ some k_ ≠ (.slice Ao27 t387.length co27 : Value).ownBlock) (.slice Ao18 t374.length co18) t374) ∧ (Kd.R (Kd.int .u8) 5 w' w.heap.size (fun k_ => some k_ ≠ (s_.2.1 : Value).ownBlock ∧ some k_ ≠ (s_.2.2 : Value).ownBlock ∧ some k_ ≠ (.slice Ao12 t365.length co12 : Value).ownBlock ∧ some k_ ≠ (.slice Ao28 t391.length co28 : Value).ownBlock) (.slice Ao19 t378.length co19) t378) ∧ (Kd.R (Kd.int .i64) 3 w' w.heap.size (fun k_ => some k_ ≠ (.slice Ao10 t358.length co10 : Value).ownBlock ∧ some k_ ≠ (.slice Ao11 t361.length co11 : Value).ownBlock ∧ some k_ ≠ (.slice Ao17 t371.length co17 : Value).ownBlock ∧ some k_ ≠ (.slice Ao18 t374.length co18 : Value).ownBlock ∧ some k_ ≠ (.slice Ao27 t387.length co27 : Value).ownBlock) (.slice Ao26 t384.length co26) t384) ∧ (Kd.R (Kd.int .i64) 3 w' w.heap.size (fun k_ => some k_ ≠ (.slice Ao10 t358.length co10 : Value).ownBlock ∧ some k_ ≠ (.slice Ao11 t361.length co11 : Value).ownBlock ∧ some k_ ≠ (.slice Ao17 t371.length co17 : Value).ownBlock ∧ some k_ ≠ (.slice Ao18 t374.length co18 : Value).ownBlock ∧ some k_ ≠ (.slice Ao26 t384.length co26 : Value).ownBlock) (.slice Ao27 t387.length co27) t387) ∧ (Kd.R (Kd.int .u8) 5 w' w.heap.size (fun k_ => some k_ ≠ (s_.2.1 : Value).ownBlock ∧ some k_ ≠ (s_.2.2 : Value).ownBlock ∧ some k_ ≠ (.slice Ao12 t365.length co12 : Value).ownBlock ∧ some k_ ≠ (.slice Ao19 t378.length co19 : Value).ownBlock) (.slice Ao28 t391.length co28) t391) ∧ (w'.heap[gb369]? = some (.cells #[.int .i64 t357, .slice Ao10 t358.length co10, .slice Ao11 t361.length co11, .int .i64 t364, .slice Ao12 t365.length co12] 48 (0, 0))) ∧ (w'.heap[gb382]? = some (.cells #[.int .i64 t370, .slice Ao17 t371.length co17, .slice Ao18 t374.length co18, .int .i64 t377, .slice Ao19 t378.length co19] 48 (0, 0))) ∧ (w'.heap[gb395]? = some (.cells #[.int .i64 t383, .slice Ao26 t384.length co26, .slice Ao27 t387.length co27, .int .i64 t390, .slice Ao28 t391.length co28] 48 (0, 0))) ∧ (Below w.heap.size w w')) ?_ ?_
                        rotate_left
                        · intro hCont
                          refine two_ (i := 8) (j := 14) (Ni := some 74) (Nj := some 80) #[true, true, true, true, true, true, true, true, true, true, true, false, true, true, false, false, false, false, false] #[true, true, true, true, true, true, true, true, false, true, true, false, true, true, true, false, false, false, false] rfl rfl rfl rfl (two_of HT_.out (by kernel_rfl)) (by decide) (by decide) (fun K hK => ?_) (fun K hK => ?_)
                          · skip
                            refine Kd.R_lit_step (Kd.int .u8) _ 5 ?hg (N := 74) ?hd (xs := ([] : List Int)) (inner := []) (ok := fun _ => True) (okp := fun _ => True) ?hr ?hp (fun _ hk => hk) trivial (Below.refl _ _) (Nat.le_refl _) (by simp) ?_; (case hd => rfl); (case hg => rfl); (case hr => first | (go_simp; done) | (go_simp; rfl)); (case hp => exact (Reps.none _ _))
                            intro v412 w71 ho72 hb hg_ hnew_
                            clear hg_ hnew_
                            (first | rw [← Ny411.out] at ho72 | (simp only [Int.reduceToNat] at ho72; rw [← Ny411.out] at ho72))
                            have n0_ := qM (Kd.R_below (by (with_reducible repeat (first | apply qA | apply qN | apply qD)); exact HO_370001.out) hb)
                            have n1_ := qM (Kd.R_below (by (with_reducible repeat (first | apply qA | apply qN | apply qD)); exact HO_370002.out) hb)
                            have n2_ := qM (Kd.R_elder' (by (with_reducible repeat (first | apply qA | apply qN | apply qD)); exact HO_370004.out) (Kd.R_base ho72) hb)
                            have n3_ := qM (Kd.R_below (by (with_reducible repeat (first | apply qA | apply qN | apply qD)); exact HO_383001.out) hb)
                            have n4_ := qM (Kd.R_below (by (with_reducible repeat (first | apply qA | apply qN | apply qD)); exact HO_383002.out) hb)
                            have n5_ := qM (Kd.R_elder' (by (with_reducible repeat (first | apply qA | apply qN | apply qD)); exact HO_383004.out) (Kd.R_base ho72) hb)
                            have n6_ := qM (Kd.R_below (by (with_reducible repeat (first | apply qA | apply qN | apply qD)); exact HO_396001.out) hb)
                            have n7_ := qM (Kd.R_below (by (with_reducible repeat (first | apply qA | apply qN | apply qD)); exact HO_396002.out) hb)
                            have n8_ := qM (Kd.R_elder' (by (with_reducible repeat (first | apply qA | apply qN | apply qD)); exact HO_396004.out) (Kd.R_base ho72) hb)
                            have n9_ := qM (Kd.R_lower (Kd.R_new' (Kd.R_new' (Kd.R_new' ho72 (Kd.R_lt (by (with_reducible repeat (first | apply qA | apply qN | apply qD)); exact HO_370004.out))) (Kd.R_lt (by (with_reducible repeat (first | apply qA | apply qN | apply qD)); exact HO_383004.out))) (Kd.R_lt (by (with_reducible repeat (first | apply qA | apply qN | apply qD)); exact HO_396004.out))) (below_size (by repeat (first | (with_reducible first | exact HB.out | apply yA | apply yN | apply yD | refine yS ?_ GE369.out | refine yS ?_ GE382.out | refine yS ?_ GE395.out) | exact HB.out))))
                            have n10_ := qM (blk_below (g := gb369) (o := .cells #[.int .i64 t357, .slice Ao10 t358.length co10, .slice Ao11 t361.length co11, .int .i64 t364, .slice Ao12 t365.length co12] 48 (0, 0)) (by (with_reducible repeat (first | refine zN ?_ _ | refine zD ?_ | refine zA ?_ _)); exact BK369.out) hb)
                            have n11_ := qM (blk_below (g := gb382) (o := .cells #[.int .i64 t370, .slice Ao17 t371.length co17, .slice Ao18 t374.length co18, .int .i64 t377, .slice Ao19 t378.length co19] 48 (0, 0)) (by (with_reducible repeat (first | refine zN ?_ _ | refine zD ?_ | refine zA ?_ _)); exact BK382.out) hb)
                            have n12_ := qM (blk_below (g := gb395) (o := .cells #[.int .i64 t383, .slice Ao26 t384.length co26, .slice Ao27 t387.length co27, .int .i64 t390, .slice Ao28 t391.length co28] 48 (0, 0)) (by (with_reducible repeat (first | refine zN ?_ _ | refine zD ?_ | refine zA ?_ _)); exact BK395.out) hb)
                            have n13_ := qM (below_step (by repeat (first | (with_reducible first | exact HB.out | apply yA | apply yN | apply yD | refine yS ?_ GE369.out | refine yS ?_ GE382.out | refine yS ?_ GE395.out) | exact HB.out)) hb)
                            clear HO_370001
                            clear HO_370002
                            clear HO_370004
                            clear HO_383001
                            clear HO_383002
                            clear HO_383004
                            clear HO_396001
                            clear HO_396002
                            clear HO_396004
                            clear BK369
                            clear BK382
                            clear BK395
                            clear HB
                            have HO_370001 := n0_
                            have HO_370002 := n1_
                            have HO_370004 := n2_
                            have HO_383001 := n3_
                            have HO_383002 := n4_
                            have HO_383004 := n5_
                            have HO_396001 := n6_
                            have HO_396002 := n7_
                            have HO_396004 := n8_
                            have HO413 := n9_
                            have BK369 := n10_
                            have BK382 := n11_
                            have BK395 := n12_
                            have HB := n13_
                            clear n0_ n1_ n2_ n3_ n4_ n5_ n6_ n7_ n8_ n9_ n10_ n11_ n12_ n13_
                            clear hb ho72
                            refine hK.out _ _ ⟨(zC BK382.out 0).trans rfl, (zC BK382.out 1).trans rfl, (zC BK382.out 2).trans rfl, (zC BK382.out 3).trans rfl, (zC BK382.out 4).trans rfl, (zC BK369.out 0).trans rfl, (zC BK369.out 1).trans rfl, (zC BK369.out 2).trans rfl, (zC BK369.out 3).trans rfl, (zC BK369.out 4).trans rfl⟩ (fun hHeld => ?_)
                            clear hK K
                            refine norm_ (a' := ?_) ?_ ?_
                            rotate_left
                            · show Act.put _ (some 74) _ = _
                              simp only [Act.put, List.setIfInBounds_toArray, List.set_cons_zero, List.set_cons_succ, i64_w, i32_w]
                              rfl
                            refine two_ (i := 11) (j := 14) (Ni := some 77) (Nj := some 80) #[true, true, true, true, true, true, true, true, true, true, true, true, true, true, false, false, false, false, false] #[true, true, true, true, true, true, true, true, true, true, true, false, true, true, true, false, false, false, false] rfl rfl rfl rfl (two_of HT_.out (by kernel_rfl)) (by decide) (by decide) (fun K hK => ?_) (fun K hK => ?_)
                            · skip
                              refine Kd.R_append_rows_step (Kd.int .u8) (w0 := w) w.heap.size (by rfl) (.tmp 74) (.tmp 76) 25 5 (.int .u8 0) 1 rfl Try.underlying25 info5 rfl (by decide) (by omega) v412 y411 t365 _ _ _ (fun k_ => some k_ ≠ (.slice Ao12 t365.length co12 : Value).ownBlock ∧ some k_ ≠ (.slice Ao19 t378.length co19 : Value).ownBlock ∧ some k_ ≠ (.slice Ao28 t391.length co28 : Value).ownBlock) (fun _ => False) rfl rfl ?aO ?aR (fun _ _ h => h) (fun _ h => h.elim) ?aF ?aB ?aS ?aL ?_
                              (case aR => repeat (first | exact (qR HO_370004.out).2.2 | (with_reducible refine Kd.C_alloc ?_ _) | (with_reducible refine Kd.C_drewN ?_ _) | (with_reducible refine Kd.C_drew ?_)))
                              (case aB => exact (by repeat (first | (with_reducible first | exact HB.out | apply yA | apply yN | apply yD | refine yS ?_ GE369.out | refine yS ?_ GE382.out | refine yS ?_ GE395.out) | exact HB.out)))
                              (case aF => exact (fun k_ hk => ⟨Kd.fresh' (Kd.R_lt (by (with_reducible repeat (first | apply qA | apply qN | apply qD)); exact HO_370004.out)) k_ hk, Kd.fresh' (Kd.R_lt (by (with_reducible repeat (first | apply qA | apply qN | apply qD)); exact HO_383004.out)) k_ hk, Kd.fresh' (Kd.R_lt (by (with_reducible repeat (first | apply qA | apply qN | apply qD)); exact HO_396004.out)) k_ hk⟩))
                              (case aO => exact (by (with_reducible repeat (first | apply qA | apply qN | apply qD)); exact Kd.R_mono HO413.out (fun _ hk => ⟨hk.1.1.2, ⟨hk.1.2, hk.2⟩⟩)))
                              (case aS => exact (below_size (by repeat (first | (with_reducible first | exact HB.out | apply yA | apply yN | apply yD | refine yS ?_ GE369.out | refine yS ?_ GE382.out | refine yS ?_ GE395.out) | exact HB.out))))
                              (case aL => have := LMc66.out; omega)
                              intro v415 w73 ho hb hg hat
                              rw [← Ny414.out] at ho
                              have n0_ := qM (Kd.R_over' (by (with_reducible repeat (first | apply qA | apply qN | apply qD)); exact HO_370001.out) (Kd.R_typed (by (with_reducible repeat (first | apply qA | apply qN | apply qD)); exact HO413.out)) (by decide) hg)
                              have n1_ := qM (Kd.R_over' (by (with_reducible repeat (first | apply qA | apply qN | apply qD)); exact HO_370002.out) (Kd.R_typed (by (with_reducible repeat (first | apply qA | apply qN | apply qD)); exact HO413.out)) (by decide) hg)
                              have n2_ := qM (Kd.R_after (ok := (fun k_ => some k_ ≠ (.slice Ao19 t378.length co19 : Value).ownBlock ∧ some k_ ≠ (.slice Ao28 t391.length co28 : Value).ownBlock)) (by (with_reducible repeat (first | apply qA | apply qN | apply qD)); exact HO_370004.out) hg hat)
                              have n3_ := qM (Kd.R_over' (by (with_reducible repeat (first | apply qA | apply qN | apply qD)); exact HO_383001.out) (Kd.R_typed (by (with_reducible repeat (first | apply qA | apply qN | apply qD)); exact HO413.out)) (by decide) hg)
                              have n4_ := qM (Kd.R_over' (by (with_reducible repeat (first | apply qA | apply qN | apply qD)); exact HO_383002.out) (Kd.R_typed (by (with_reducible repeat (first | apply qA | apply qN | apply qD)); exact HO413.out)) (by decide) hg)
                              have n5_ := qM (Kd.R_after (ok := (fun k_ => some k_ ≠ (.slice Ao12 t365.length co12 : Value).ownBlock ∧ some k_ ≠ (.slice Ao28 t391.length co28 : Value).ownBlock)) (by (with_reducible repeat (first | apply qA | apply qN | apply qD)); exact HO_383004.out) hg hat)
                              have n6_ := qM (Kd.R_over' (by (with_reducible repeat (first | apply qA | apply qN | apply qD)); exact HO_396001.out) (Kd.R_typed (by (with_reducible repeat (first | apply qA | apply qN | apply qD)); exact HO413.out)) (by decide) hg)
                              have n7_ := qM (Kd.R_over' (by (with_reducible repeat (first | apply qA | apply qN | apply qD)); exact HO_396002.out) (Kd.R_typed (by (with_reducible repeat (first | apply qA | apply qN | apply qD)); exact HO413.out)) (by decide) hg)
                              have n8_ := qM (Kd.R_after (ok := (fun k_ => some k_ ≠ (.slice Ao12 t365.length co12 : Value).ownBlock ∧ some k_ ≠ (.slice Ao19 t378.length co19 : Value).ownBlock)) (by (with_reducible repeat (first | apply qA | apply qN | apply qD)); exact HO_396004.out) hg hat)
                              have n9_ := qM (blk_grown (g := gb369) (o := .cells #[.int .i64 t357, .slice Ao10 t358.length co10, .slice Ao11 t361.length co11, .int .i64 t364, .slice Ao12 t365.length co12] 48 (0, 0)) (by (with_reducible repeat (first | refine zN ?_ _ | refine zD ?_ | refine zA ?_ _)); exact BK369.out) hg (Kd.R_ne HO413.out BK369.out (by decide)))
                              have n10_ := qM (blk_grown (g := gb382) (o := .cells #[.int .i64 t370, .slice Ao17 t371.length co17, .slice Ao18 t374.length co18, .int .i64 t377, .slice Ao19 t378.length co19] 48 (0, 0)) (by (with_reducible repeat (first | refine zN ?_ _ | refine zD ?_ | refine zA ?_ _)); exact BK382.out) hg (Kd.R_ne HO413.out BK382.out (by decide)))
                              have n11_ := qM (blk_grown (g := gb395) (o := .cells #[.int .i64 t383, .slice Ao26 t384.length co26, .slice Ao27 t387.length co27, .int .i64 t390, .slice Ao28 t391.length co28] 48 (0, 0)) (by (with_reducible repeat (first | refine zN ?_ _ | refine zD ?_ | refine zA ?_ _)); exact BK395.out) hg (Kd.R_ne HO413.out BK395.out (by decide)))
                              have n12_ := qM (hb)
                              have n13_ := qM (ho)
                              clear HO_370001
                              clear HO_370002
                              clear HO_370004
                              clear HO_383001
                              clear HO_383002
                              clear HO_383004
                              clear HO_396001
                              clear HO_396002
                              clear HO_396004
                              clear BK369
                              clear BK382
                              clear BK395
                              clear HB
                              clear HO413
                              have HO_370001 := n0_
                              have HO_370002 := n1_
                              have HO_370004 := n2_
                              have HO_383001 := n3_
                              have HO_383002 := n4_
                              have HO_383004 := n5_
                              have HO_396001 := n6_
                              have HO_396002 := n7_
                              have HO_396004 := n8_
                              have BK369 := n9_
                              have BK382 := n10_
                              have BK395 := n11_
                              have HB := n12_
                              have HO416 := n13_
                              clear n0_ n1_ n2_ n3_ n4_ n5_ n6_ n7_ n8_ n9_ n10_ n11_ n12_ n13_
                              clear ho hb hg hat
                              refine hK.out _ _ ⟨(zC BK382.out 0).trans rfl, (zC BK382.out 1).trans rfl, (zC BK382.out 2).trans rfl, (zC BK382.out 3).trans rfl, (zC BK382.out 4).trans rfl, (zC BK369.out 0).trans rfl, (zC BK369.out 1).trans rfl, (zC BK369.out 2).trans rfl, (zC BK369.out 3).trans rfl, (zC BK369.out 4).trans rfl⟩ (fun hHeld => ?_)
                              clear hK K
                              refine norm_ (a' := ?_) ?_ ?_
                              rotate_left
                              · show Act.put _ (some 77) _ = _
                                simp only [Act.put, List.setIfInBounds_toArray, List.set_cons_zero, List.set_cons_succ, i64_w, i32_w]
                                rfl
                              refine one_ (i := 14) (N := some 80) #[true, true, true, true, true, true, true, true, true, true, true, true, true, true, true, false, false, false, false] rfl rfl (one_of HT_.out (by kernel_rfl)) (by decide) (fun K hK => ?_)
                              refine Kd.R_lit_step (Kd.int .u8) _ 5 ?hg (N := 80) ?hd (xs := ([(t368) % 256] : List Int)) (inner := [.int .u8 ((t368) % 256)]) (ok := fun _ => True) (okp := fun _ => True) ?hr ?hp (fun _ hk => hk) trivial (Below.refl _ _) (Nat.le_refl _) (by simp) ?_; (case hd => rfl); (case hg => rfl); (case hr => first | (go_simp; done) | (go_simp; rfl)); (case hp => exact (Reps.one (show Kd.M (Kd.int .u8) _ _ _ ((t368) % 256) [.int .u8 ((t368) % 256)] from rfl) (Reps.none _ _)))
                              intro v418 w74 ho75 hb hg_ hnew_
                              clear hg_ hnew_
                              (first | rw [← Ny417.out] at ho75 | (simp only [Int.reduceToNat] at ho75; rw [← Ny417.out] at ho75))
                              have n0_ := qM (Kd.R_below (by (with_reducible repeat (first | apply qA | apply qN | apply qD)); exact HO_370001.out) hb)
                              have n1_ := qM (Kd.R_below (by (with_reducible repeat (first | apply qA | apply qN | apply qD)); exact HO_370002.out) hb)
                              have n2_ := qM (Kd.R_elder' (by (with_reducible repeat (first | apply qA | apply qN | apply qD)); exact HO_370004.out) (Kd.R_base ho75) hb)
                              have n3_ := qM (Kd.R_below (by (with_reducible repeat (first | apply qA | apply qN | apply qD)); exact HO_383001.out) hb)
                              have n4_ := qM (Kd.R_below (by (with_reducible repeat (first | apply qA | apply qN | apply qD)); exact HO_383002.out) hb)
                              have n5_ := qM (Kd.R_elder' (by (with_reducible repeat (first | apply qA | apply qN | apply qD)); exact HO_383004.out) (Kd.R_base ho75) hb)
                              have n6_ := qM (Kd.R_below (by (with_reducible repeat (first | apply qA | apply qN | apply qD)); exact HO_396001.out) hb)
                              have n7_ := qM (Kd.R_below (by (with_reducible repeat (first | apply qA | apply qN | apply qD)); exact HO_396002.out) hb)
                              have n8_ := qM (Kd.R_elder' (by (with_reducible repeat (first | apply qA | apply qN | apply qD)); exact HO_396004.out) (Kd.R_base ho75) hb)
                              have n9_ := qM (Kd.R_elder' (by (with_reducible repeat (first | apply qA | apply qN | apply qD)); exact HO416.out) (Kd.R_base ho75) hb)
                              have n10_ := qM (Kd.R_lower (Kd.R_new' (Kd.R_new' (Kd.R_new' (Kd.R_new' ho75 (Kd.R_lt (by (with_reducible repeat (first | apply qA | apply qN | apply qD)); exact HO_370004.out))) (Kd.R_lt (by (with_reducible repeat (first | apply qA | apply qN | apply qD)); exact HO_383004.out))) (Kd.R_lt (by (with_reducible repeat (first | apply qA | apply qN | apply qD)); exact HO_396004.out))) (Kd.R_lt (by (with_reducible repeat (first | apply qA | apply qN | apply qD)); exact HO416.out))) (below_size (by repeat (first | (with_reducible first | exact HB.out | apply yA | apply yN | apply yD | refine yS ?_ GE369.out | refine yS ?_ GE382.out | refine yS ?_ GE395.out) | exact HB.out))))
                              have n11_ := qM (blk_below (g := gb369) (o := .cells #[.int .i64 t357, .slice Ao10 t358.length co10, .slice Ao11 t361.length co11, .int .i64 t364, .slice Ao12 t365.length co12] 48 (0, 0)) (by (with_reducible repeat (first | refine zN ?_ _ | refine zD ?_ | refine zA ?_ _)); exact BK369.out) hb)
                              have n12_ := qM (blk_below (g := gb382) (o := .cells #[.int .i64 t370, .slice Ao17 t371.length co17, .slice Ao18 t374.length co18, .int .i64 t377, .slice Ao19 t378.length co19] 48 (0, 0)) (by (with_reducible repeat (first | refine zN ?_ _ | refine zD ?_ | refine zA ?_ _)); exact BK382.out) hb)
                              have n13_ := qM (blk_below (g := gb395) (o := .cells #[.int .i64 t383, .slice Ao26 t384.length co26, .slice Ao27 t387.length co27, .int .i64 t390, .slice Ao28 t391.length co28] 48 (0, 0)) (by (with_reducible repeat (first | refine zN ?_ _ | refine zD ?_ | refine zA ?_ _)); exact BK395.out) hb)
                              have n14_ := qM (below_step (by repeat (first | (with_reducible first | exact HB.out | apply yA | apply yN | apply yD | refine yS ?_ GE369.out | refine yS ?_ GE382.out | refine yS ?_ GE395.out) | exact HB.out)) hb)
                              clear HO_370001
                              clear HO_370002
                              clear HO_370004
                              clear HO_383001
                              clear HO_383002
                              clear HO_383004
                              clear HO_396001
                              clear HO_396002
                              clear HO_396004
                              clear HO416
                              clear BK369
                              clear BK382
                              clear BK395
                              clear HB
                              have HO_370001 := n0_
                              have HO_370002 := n1_
                              have HO_370004 := n2_
                              have HO_383001 := n3_
                              have HO_383002 := n4_
                              have HO_383004 := n5_
                              have HO_396001 := n6_
                              have HO_396002 := n7_
                              have HO_396004 := n8_
                              have HO416 := n9_
                              have HO419 := n10_
                              have BK369 := n11_
                              have BK382 := n12_
                              have BK395 := n13_
                              have HB := n14_
                              clear n0_ n1_ n2_ n3_ n4_ n5_ n6_ n7_ n8_ n9_ n10_ n11_ n12_ n13_ n14_
                              clear hb ho75
                              refine hK.out _ _ ⟨(zC BK382.out 0).trans rfl, (zC BK382.out 1).trans rfl, (zC BK382.out 2).trans rfl, (zC BK382.out 3).trans rfl, (zC BK382.out 4).trans rfl, (zC BK369.out 0).trans rfl, (zC BK369.out 1).trans rfl, (zC BK369.out 2).trans rfl, (zC BK369.out 3).trans rfl, (zC BK369.out 4).trans rfl⟩ (fun hHeld => ?_)
                              clear hK K
                              refine norm_ (a' := ?_) ?_ ?_
                              rotate_left
                              · show Act.put _ (some 80) _ = _
                                simp only [Act.put, List.setIfInBounds_toArray, List.set_cons_zero, List.set_cons_succ, i64_w, i32_w]
                                rfl
                              exact norm_ (by simp only [putAll, Act.put, List.setIfInBounds_toArray, List.set_cons_zero, List.set_cons_succ]) (hCont (v412, v415, v418) _ ⟨hHeld, (by (with_reducible repeat (first | apply qA | apply qN | apply qD)); exact Kd.R_mono HO416.out (fun _ hk => ⟨hk.2, ⟨hk.1.1, ⟨hk.1.2.1, hk.1.2.2⟩⟩⟩)), (by (with_reducible repeat (first | apply qA | apply qN | apply qD)); exact Kd.R_mono HO419.out (fun _ hk => ⟨hk.2, ⟨hk.1.1.1.2, ⟨hk.1.1.2, hk.1.2⟩⟩⟩)), (by (with_reducible repeat (first | apply qA | apply qN | apply qD)); exact HO_370001.out), (by (with_reducible repeat (first | apply qA | apply qN | apply qD)); exact HO_370002.out), (by (with_reducible repeat (first | apply qA | apply qN | apply qD)); exact Kd.R_mono HO_370004.out (fun _ hk => ⟨hk.1.2, ⟨hk.2, ⟨hk.1.1.1, hk.1.1.2⟩⟩⟩)), (by (with_reducible repeat (first | apply qA | apply qN | apply qD)); exact HO_383001.out), (by (with_reducible repeat (first | apply qA | apply qN | apply qD)); exact HO_383002.out), (by (with_reducible repeat (first | apply qA | apply qN | apply qD)); exact Kd.R_mono HO_383004.out (fun _ hk => ⟨hk.1.2, ⟨hk.2, ⟨hk.1.1.1, hk.1.1.2⟩⟩⟩)), (by (with_reducible repeat (first | apply qA | apply qN | apply qD)); exact HO_396001.out), (by (with_reducible repeat (first | apply qA | apply qN | apply qD)); exact HO_396002.out), (by (with_reducible repeat (first | apply qA | apply qN | apply qD)); exact Kd.R_mono HO_396004.out (fun _ hk => ⟨hk.1.2, ⟨hk.2, ⟨hk.1.1.1, hk.1.1.2⟩⟩⟩)), (by (with_reducible repeat (first | refine zN ?_ _ | refine zD ?_ | refine zA ?_ _)); exact BK369.out), (by (with_reducible repeat (first | refine zN ?_ _ | refine zD ?_ | refine zA ?_ _)); exact BK382.out), (by (with_reducible repeat (first | refine zN ?_ _ | refine zD ?_ | refine zA ?_ _)); exact BK395.out), (by repeat (first | (with_reducible first | exact HB.out | apply yA | apply yN | apply yD | refine yS ?_ GE369.out | refine yS ?_ GE382.out | refine yS ?_ GE395.out) | exact HB.out))⟩)
                            · skip
                              refine Kd.R_lit_step (Kd.int .u8) _ 5 ?hg (N := 80) ?hd (xs := ([(t368) % 256] : List Int)) (inner := [.int .u8 ((t368) % 256)]) (ok := fun _ => True) (okp := fun _ => True) ?hr ?hp (fun _ hk => hk) trivial (Below.refl _ _) (Nat.le_refl _) (by simp) ?_; (case hd => rfl); (case hg => rfl); (case hr => first | (go_simp; done) | (go_simp; rfl)); (case hp => exact (Reps.one (show Kd.M (Kd.int .u8) _ _ _ ((t368) % 256) [.int .u8 ((t368) % 256)] from rfl) (Reps.none _ _)))
                              intro v418 w73 ho74 hb hg_ hnew_
                              clear hg_ hnew_
                              (first | rw [← Ny417.out] at ho74 | (simp only [Int.reduceToNat] at ho74; rw [← Ny417.out] at ho74))
                              have n0_ := qM (Kd.R_below (by (with_reducible repeat (first | apply qA | apply qN | apply qD)); exact HO_370001.out) hb)
                              have n1_ := qM (Kd.R_below (by (with_reducible repeat (first | apply qA | apply qN | apply qD)); exact HO_370002.out) hb)
                              have n2_ := qM (Kd.R_elder' (by (with_reducible repeat (first | apply qA | apply qN | apply qD)); exact HO_370004.out) (Kd.R_base ho74) hb)
                              have n3_ := qM (Kd.R_below (by (with_reducible repeat (first | apply qA | apply qN | apply qD)); exact HO_383001.out) hb)
                              have n4_ := qM (Kd.R_below (by (with_reducible repeat (first | apply qA | apply qN | apply qD)); exact HO_383002.out) hb)
                              have n5_ := qM (Kd.R_elder' (by (with_reducible repeat (first | apply qA | apply qN | apply qD)); exact HO_383004.out) (Kd.R_base ho74) hb)
                              have n6_ := qM (Kd.R_below (by (with_reducible repeat (first | apply qA | apply qN | apply qD)); exact HO_396001.out) hb)
                              have n7_ := qM (Kd.R_below (by (with_reducible repeat (first | apply qA | apply qN | apply qD)); exact HO_396002.out) hb)
                              have n8_ := qM (Kd.R_elder' (by (with_reducible repeat (first | apply qA | apply qN | apply qD)); exact HO_396004.out) (Kd.R_base ho74) hb)
                              have n9_ := qM (Kd.R_elder' (by (with_reducible repeat (first | apply qA | apply qN | apply qD)); exact HO413.out) (Kd.R_base ho74) hb)
                              have n10_ := qM (Kd.R_lower (Kd.R_new' (Kd.R_new' (Kd.R_new' (Kd.R_new' ho74 (Kd.R_lt (by (with_reducible repeat (first | apply qA | apply qN | apply qD)); exact HO_370004.out))) (Kd.R_lt (by (with_reducible repeat (first | apply qA | apply qN | apply qD)); exact HO_383004.out))) (Kd.R_lt (by (with_reducible repeat (first | apply qA | apply qN | apply qD)); exact HO_396004.out))) (Kd.R_lt (by (with_reducible repeat (first | apply qA | apply qN | apply qD)); exact HO413.out))) (below_size (by repeat (first | (with_reducible first | exact HB.out | apply yA | apply yN | apply yD | refine yS ?_ GE369.out | refine yS ?_ GE382.out | refine yS ?_ GE395.out) | exact HB.out))))
                              have n11_ := qM (blk_below (g := gb369) (o := .cells #[.int .i64 t357, .slice Ao10 t358.length co10, .slice Ao11 t361.length co11, .int .i64 t364, .slice Ao12 t365.length co12] 48 (0, 0)) (by (with_reducible repeat (first | refine zN ?_ _ | refine zD ?_ | refine zA ?_ _)); exact BK369.out) hb)
                              have n12_ := qM (blk_below (g := gb382) (o := .cells #[.int .i64 t370, .slice Ao17 t371.length co17, .slice Ao18 t374.length co18, .int .i64 t377, .slice Ao19 t378.length co19] 48 (0, 0)) (by (with_reducible repeat (first | refine zN ?_ _ | refine zD ?_ | refine zA ?_ _)); exact BK382.out) hb)
                              have n13_ := qM (blk_below (g := gb395) (o := .cells #[.int .i64 t383, .slice Ao26 t384.length co26, .slice Ao27 t387.length co27, .int .i64 t390, .slice Ao28 t391.length co28] 48 (0, 0)) (by (with_reducible repeat (first | refine zN ?_ _ | refine zD ?_ | refine zA ?_ _)); exact BK395.out) hb)
                              have n14_ := qM (below_step (by repeat (first | (with_reducible first | exact HB.out | apply yA | apply yN | apply yD | refine yS ?_ GE369.out | refine yS ?_ GE382.out | refine yS ?_ GE395.out) | exact HB.out)) hb)
                              clear HO_370001
                              clear HO_370002
                              clear HO_370004
                              clear HO_383001
                              clear HO_383002
                              clear HO_383004
                              clear HO_396001
                              clear HO_396002
                              clear HO_396004
                              clear HO413
                              clear BK369
                              clear BK382
                              clear BK395
                              clear HB
                              have HO_370001 := n0_
                              have HO_370002 := n1_
                              have HO_370004 := n2_
                              have HO_383001 := n3_
                              have HO_383002 := n4_
                              have HO_383004 := n5_
                              have HO_396001 := n6_
                              have HO_396002 := n7_
                              have HO_396004 := n8_
                              have HO413 := n9_
                              have HO419 := n10_
                              have BK369 := n11_
                              have BK382 := n12_
                              have BK395 := n13_
                              have HB := n14_
                              clear n0_ n1_ n2_ n3_ n4_ n5_ n6_ n7_ n8_ n9_ n10_ n11_ n12_ n13_ n14_
                              clear hb ho74
                              refine hK.out _ _ ⟨(zC BK382.out 0).trans rfl, (zC BK382.out 1).trans rfl, (zC BK382.out 2).trans rfl, (zC BK382.out 3).trans rfl, (zC BK382.out 4).trans rfl, (zC BK369.out 0).trans rfl, (zC BK369.out 1).trans rfl, (zC BK369.out 2).trans rfl, (zC BK369.out 3).trans rfl, (zC BK369.out 4).trans rfl⟩ (fun hHeld => ?_)
                              clear hK K
                              refine norm_ (a' := ?_) ?_ ?_
                              rotate_left
                              · show Act.put _ (some 80) _ = _
                                simp only [Act.put, List.setIfInBounds_toArray, List.set_cons_zero, List.set_cons_succ, i64_w, i32_w]
                                rfl
                              refine one_ (i := 11) (N := some 77) #[true, true, true, true, true, true, true, true, true, true, true, true, true, true, true, false, false, false, false] rfl rfl (one_of HT_.out (by kernel_rfl)) (by decide) (fun K hK => ?_)
                              refine Kd.R_append_rows_step (Kd.int .u8) (w0 := w) w.heap.size (by rfl) (.tmp 74) (.tmp 76) 25 5 (.int .u8 0) 1 rfl Try.underlying25 info5 rfl (by decide) (by omega) v412 y411 t365 _ _ _ (fun k_ => some k_ ≠ (.slice Ao12 t365.length co12 : Value).ownBlock ∧ some k_ ≠ (.slice Ao19 t378.length co19 : Value).ownBlock ∧ some k_ ≠ (.slice Ao28 t391.length co28 : Value).ownBlock ∧ some k_ ≠ (v418 : Value).ownBlock) (fun _ => False) rfl rfl ?aO ?aR (fun _ _ h => h) (fun _ h => h.elim) ?aF ?aB ?aS ?aL ?_
                              (case aR => repeat (first | exact (qR HO_370004.out).2.2 | (with_reducible refine Kd.C_alloc ?_ _) | (with_reducible refine Kd.C_drewN ?_ _) | (with_reducible refine Kd.C_drew ?_)))
                              (case aB => exact (by repeat (first | (with_reducible first | exact HB.out | apply yA | apply yN | apply yD | refine yS ?_ GE369.out | refine yS ?_ GE382.out | refine yS ?_ GE395.out) | exact HB.out)))
                              (case aF => exact (fun k_ hk => ⟨Kd.fresh' (Kd.R_lt (by (with_reducible repeat (first | apply qA | apply qN | apply qD)); exact HO_370004.out)) k_ hk, Kd.fresh' (Kd.R_lt (by (with_reducible repeat (first | apply qA | apply qN | apply qD)); exact HO_383004.out)) k_ hk, Kd.fresh' (Kd.R_lt (by (with_reducible repeat (first | apply qA | apply qN | apply qD)); exact HO_396004.out)) k_ hk, Kd.fresh' (Kd.R_lt (by (with_reducible repeat (first | apply qA | apply qN | apply qD)); exact HO419.out)) k_ hk⟩))
                              (case aO => exact (by (with_reducible repeat (first | apply qA | apply qN | apply qD)); exact Kd.R_mono HO413.out (fun _ hk => ⟨hk.1.1.1.2, ⟨hk.1.1.2, ⟨hk.1.2, hk.2⟩⟩⟩)))
                              (case aS => exact (below_size (by repeat (first | (with_reducible first | exact HB.out | apply yA | apply yN | apply yD | refine yS ?_ GE369.out | refine yS ?_ GE382.out | refine yS ?_ GE395.out) | exact HB.out))))
                              (case aL => have := LMc66.out; omega)
                              intro v415 w75 ho hb hg hat
                              rw [← Ny414.out] at ho
                              have n0_ := qM (Kd.R_over' (by (with_reducible repeat (first | apply qA | apply qN | apply qD)); exact HO_370001.out) (Kd.R_typed (by (with_reducible repeat (first | apply qA | apply qN | apply qD)); exact HO413.out)) (by decide) hg)
                              have n1_ := qM (Kd.R_over' (by (with_reducible repeat (first | apply qA | apply qN | apply qD)); exact HO_370002.out) (Kd.R_typed (by (with_reducible repeat (first | apply qA | apply qN | apply qD)); exact HO413.out)) (by decide) hg)
                              have n2_ := qM (Kd.R_after (ok := (fun k_ => some k_ ≠ (.slice Ao19 t378.length co19 : Value).ownBlock ∧ some k_ ≠ (.slice Ao28 t391.length co28 : Value).ownBlock ∧ some k_ ≠ (v418 : Value).ownBlock)) (by (with_reducible repeat (first | apply qA | apply qN | apply qD)); exact Kd.R_mono HO_370004.out (fun _ hk => ⟨⟨hk.1.1.1, ⟨hk.1.1.2, hk.2⟩⟩, hk.1.2⟩)) hg hat)
                              have n3_ := qM (Kd.R_over' (by (with_reducible repeat (first | apply qA | apply qN | apply qD)); exact HO_383001.out) (Kd.R_typed (by (with_reducible repeat (first | apply qA | apply qN | apply qD)); exact HO413.out)) (by decide) hg)
                              have n4_ := qM (Kd.R_over' (by (with_reducible repeat (first | apply qA | apply qN | apply qD)); exact HO_383002.out) (Kd.R_typed (by (with_reducible repeat (first | apply qA | apply qN | apply qD)); exact HO413.out)) (by decide) hg)
                              have n5_ := qM (Kd.R_after (ok := (fun k_ => some k_ ≠ (.slice Ao12 t365.length co12 : Value).ownBlock ∧ some k_ ≠ (.slice Ao28 t391.length co28 : Value).ownBlock ∧ some k_ ≠ (v418 : Value).ownBlock)) (by (with_reducible repeat (first | apply qA | apply qN | apply qD)); exact Kd.R_mono HO_383004.out (fun _ hk => ⟨⟨hk.1.1.1, ⟨hk.1.1.2, hk.2⟩⟩, hk.1.2⟩)) hg hat)
                              have n6_ := qM (Kd.R_over' (by (with_reducible repeat (first | apply qA | apply qN | apply qD)); exact HO_396001.out) (Kd.R_typed (by (with_reducible repeat (first | apply qA | apply qN | apply qD)); exact HO413.out)) (by decide) hg)
                              have n7_ := qM (Kd.R_over' (by (with_reducible repeat (first | apply qA | apply qN | apply qD)); exact HO_396002.out) (Kd.R_typed (by (with_reducible repeat (first | apply qA | apply qN | apply qD)); exact HO413.out)) (by decide) hg)
                              have n8_ := qM (Kd.R_after (ok := (fun k_ => some k_ ≠ (.slice Ao12 t365.length co12 : Value).ownBlock ∧ some k_ ≠ (.slice Ao19 t378.length co19 : Value).ownBlock ∧ some k_ ≠ (v418 : Value).ownBlock)) (by (with_reducible repeat (first | apply qA | apply qN | apply qD)); exact Kd.R_mono HO_396004.out (fun _ hk => ⟨⟨hk.1.1.1, ⟨hk.1.1.2, hk.2⟩⟩, hk.1.2⟩)) hg hat)
                              have n9_ := qM (blk_grown (g := gb369) (o := .cells #[.int .i64 t357, .slice Ao10 t358.length co10, .slice Ao11 t361.length co11, .int .i64 t364, .slice Ao12 t365.length co12] 48 (0, 0)) (by (with_reducible repeat (first | refine zN ?_ _ | refine zD ?_ | refine zA ?_ _)); exact BK369.out) hg (Kd.R_ne HO413.out BK369.out (by decide)))
                              have n10_ := qM (blk_grown (g := gb382) (o := .cells #[.int .i64 t370, .slice Ao17 t371.length co17, .slice Ao18 t374.length co18, .int .i64 t377, .slice Ao19 t378.length co19] 48 (0, 0)) (by (with_reducible repeat (first | refine zN ?_ _ | refine zD ?_ | refine zA ?_ _)); exact BK382.out) hg (Kd.R_ne HO413.out BK382.out (by decide)))
                              have n11_ := qM (blk_grown (g := gb395) (o := .cells #[.int .i64 t383, .slice Ao26 t384.length co26, .slice Ao27 t387.length co27, .int .i64 t390, .slice Ao28 t391.length co28] 48 (0, 0)) (by (with_reducible repeat (first | refine zN ?_ _ | refine zD ?_ | refine zA ?_ _)); exact BK395.out) hg (Kd.R_ne HO413.out BK395.out (by decide)))
                              have n12_ := qM (Kd.R_after (ok := (fun k_ => some k_ ≠ (.slice Ao12 t365.length co12 : Value).ownBlock ∧ some k_ ≠ (.slice Ao19 t378.length co19 : Value).ownBlock ∧ some k_ ≠ (.slice Ao28 t391.length co28 : Value).ownBlock)) (by (with_reducible repeat (first | apply qA | apply qN | apply qD)); exact Kd.R_mono HO419.out (fun _ hk => ⟨⟨hk.1.1.1.2, ⟨hk.1.1.2, hk.1.2⟩⟩, hk.2⟩)) hg hat)
                              have n13_ := qM (hb)
                              have n14_ := qM (ho)
                              clear HO_370001
                              clear HO_370002
                              clear HO_370004
                              clear HO_383001
                              clear HO_383002
                              clear HO_383004
                              clear HO_396001
                              clear HO_396002
                              clear HO_396004
                              clear BK369
                              clear BK382
                              clear BK395
                              clear HO419
                              clear HB
                              clear HO413
                              have HO_370001 := n0_
                              have HO_370002 := n1_
                              have HO_370004 := n2_
                              have HO_383001 := n3_
                              have HO_383002 := n4_
                              have HO_383004 := n5_
                              have HO_396001 := n6_
                              have HO_396002 := n7_
                              have HO_396004 := n8_
                              have BK369 := n9_
                              have BK382 := n10_
                              have BK395 := n11_
                              have HO419 := n12_
                              have HB := n13_
                              have HO416 := n14_
                              clear n0_ n1_ n2_ n3_ n4_ n5_ n6_ n7_ n8_ n9_ n10_ n11_ n12_ n13_ n14_
                              clear ho hb hg hat
                              refine hK.out _ _ ⟨(zC BK382.out 0).trans rfl, (zC BK382.out 1).trans rfl, (zC BK382.out 2).trans rfl, (zC BK382.out 3).trans rfl, (zC BK382.out 4).trans rfl, (zC BK369.out 0).trans rfl, (zC BK369.out 1).trans rfl, (zC BK369.out 2).trans rfl, (zC BK369.out 3).trans rfl, (zC BK369.out 4).trans rfl⟩ (fun hHeld => ?_)
                              clear hK K
                              refine norm_ (a' := ?_) ?_ ?_
                              rotate_left
                              · show Act.put _ (some 77) _ = _
                                simp only [Act.put, List.setIfInBounds_toArray, List.set_cons_zero, List.set_cons_succ, i64_w, i32_w]
                                rfl
                              exact norm_ (by simp only [putAll, Act.put, List.setIfInBounds_toArray, List.set_cons_zero, List.set_cons_succ]) (hCont (v412, v415, v418) _ ⟨hHeld, (by (with_reducible repeat (first | apply qA | apply qN | apply qD)); exact Kd.R_mono HO416.out (fun _ hk => ⟨hk.2.2.2, ⟨hk.1, ⟨hk.2.1, hk.2.2.1⟩⟩⟩)), (by (with_reducible repeat (first | apply qA | apply qN | apply qD)); exact Kd.R_mono HO419.out (fun _ hk => ⟨hk.2, ⟨hk.1.1, ⟨hk.1.2.1, hk.1.2.2⟩⟩⟩)), (by (with_reducible repeat (first | apply qA | apply qN | apply qD)); exact HO_370001.out), (by (with_reducible repeat (first | apply qA | apply qN | apply qD)); exact HO_370002.out), (by (with_reducible repeat (first | apply qA | apply qN | apply qD)); exact Kd.R_mono HO_370004.out (fun _ hk => ⟨hk.2, ⟨hk.1.2.2, ⟨hk.1.1, hk.1.2.1⟩⟩⟩)), (by (with_reducible repeat (first | apply qA | apply qN | apply qD)); exact HO_383001.out), (by (with_reducible repeat (first | apply qA | apply qN | apply qD)); exact HO_383002.out), (by (with_reducible repeat (first | apply qA | apply qN | apply qD)); exact Kd.R_mono HO_383004.out (fun _ hk => ⟨hk.2, ⟨hk.1.2.2, ⟨hk.1.1, hk.1.2.1⟩⟩⟩)), (by (with_reducible repeat (first | apply qA | apply qN | apply qD)); exact HO_396001.out), (by (with_reducible repeat (first | apply qA | apply qN | apply qD)); exact HO_396002.out), (by (with_reducible repeat (first | apply qA | apply qN | apply qD)); exact Kd.R_mono HO_396004.out (fun _ hk => ⟨hk.2, ⟨hk.1.2.2, ⟨hk.1.1, hk.1.2.1⟩⟩⟩)), (by (with_reducible repeat (first | refine zN ?_ _ | refine zD ?_ | refine zA ?_ _)); exact BK369.out), (by (with_reducible repeat (first | refine zN ?_ _ | refine zD ?_ | refine zA ?_ _)); exact BK382.out), (by (with_reducible repeat (first | refine zN ?_ _ | refine zD ?_ | refine zA ?_ _)); exact BK395.out), (by repeat (first | (with_reducible first | exact HB.out | apply yA | apply yN | apply yD | refine yS ?_ GE369.out | refine yS ?_ GE382.out | refine yS ?_ GE395.out) | exact HB.out))⟩)
                          · skip
                            refine Kd.R_lit_step (Kd.int .u8) _ 5 ?hg (N := 80) ?hd (xs := ([(t368) % 256] : List Int)) (inner := [.int .u8 ((t368) % 256)]) (ok := fun _ => True) (okp := fun _ => True) ?hr ?hp (fun _ hk => hk) trivial (Below.refl _ _) (Nat.le_refl _) (by simp) ?_; (case hd => rfl); (case hg => rfl); (case hr => first | (go_simp; done) | (go_simp; rfl)); (case hp => exact (Reps.one (show Kd.M (Kd.int .u8) _ _ _ ((t368) % 256) [.int .u8 ((t368) % 256)] from rfl) (Reps.none _ _)))
                            intro v418 w71 ho72 hb hg_ hnew_
                            clear hg_ hnew_
                            (first | rw [← Ny417.out] at ho72 | (simp only [Int.reduceToNat] at ho72; rw [← Ny417.out] at ho72))
                            have n0_ := qM (Kd.R_below (by (with_reducible repeat (first | apply qA | apply qN | apply qD)); exact HO_370001.out) hb)
                            have n1_ := qM (Kd.R_below (by (with_reducible repeat (first | apply qA | apply qN | apply qD)); exact HO_370002.out) hb)
                            have n2_ := qM (Kd.R_elder' (by (with_reducible repeat (first | apply qA | apply qN | apply qD)); exact HO_370004.out) (Kd.R_base ho72) hb)
                            have n3_ := qM (Kd.R_below (by (with_reducible repeat (first | apply qA | apply qN | apply qD)); exact HO_383001.out) hb)
                            have n4_ := qM (Kd.R_below (by (with_reducible repeat (first | apply qA | apply qN | apply qD)); exact HO_383002.out) hb)
                            have n5_ := qM (Kd.R_elder' (by (with_reducible repeat (first | apply qA | apply qN | apply qD)); exact HO_383004.out) (Kd.R_base ho72) hb)
                            have n6_ := qM (Kd.R_below (by (with_reducible repeat (first | apply qA | apply qN | apply qD)); exact HO_396001.out) hb)
                            have n7_ := qM (Kd.R_below (by (with_reducible repeat (first | apply qA | apply qN | apply qD)); exact HO_396002.out) hb)
                            have n8_ := qM (Kd.R_elder' (by (with_reducible repeat (first | apply qA | apply qN | apply qD)); exact HO_396004.out) (Kd.R_base ho72) hb)
                            have n9_ := qM (Kd.R_lower (Kd.R_new' (Kd.R_new' (Kd.R_new' ho72 (Kd.R_lt (by (with_reducible repeat (first | apply qA | apply qN | apply qD)); exact HO_370004.out))) (Kd.R_lt (by (with_reducible repeat (first | apply qA | apply qN | apply qD)); exact HO_383004.out))) (Kd.R_lt (by (with_reducible repeat (first | apply qA | apply qN | apply qD)); exact HO_396004.out))) (below_size (by repeat (first | (with_reducible first | exact HB.out | apply yA | apply yN | apply yD | refine yS ?_ GE369.out | refine yS ?_ GE382.out | refine yS ?_ GE395.out) | exact HB.out))))
                            have n10_ := qM (blk_below (g := gb369) (o := .cells #[.int .i64 t357, .slice Ao10 t358.length co10, .slice Ao11 t361.length co11, .int .i64 t364, .slice Ao12 t365.length co12] 48 (0, 0)) (by (with_reducible repeat (first | refine zN ?_ _ | refine zD ?_ | refine zA ?_ _)); exact BK369.out) hb)
                            have n11_ := qM (blk_below (g := gb382) (o := .cells #[.int .i64 t370, .slice Ao17 t371.length co17, .slice Ao18 t374.length co18, .int .i64 t377, .slice Ao19 t378.length co19] 48 (0, 0)) (by (with_reducible repeat (first | refine zN ?_ _ | refine zD ?_ | refine zA ?_ _)); exact BK382.out) hb)
                            have n12_ := qM (blk_below (g := gb395) (o := .cells #[.int .i64 t383, .slice Ao26 t384.length co26, .slice Ao27 t387.length co27, .int .i64 t390, .slice Ao28 t391.length co28] 48 (0, 0)) (by (with_reducible repeat (first | refine zN ?_ _ | refine zD ?_ | refine zA ?_ _)); exact BK395.out) hb)
                            have n13_ := qM (below_step (by repeat (first | (with_reducible first | exact HB.out | apply yA | apply yN | apply yD | refine yS ?_ GE369.out | refine yS ?_ GE382.out | refine yS ?_ GE395.out) | exact HB.out)) hb)
                            clear HO_370001
                            clear HO_370002
                            clear HO_370004
                            clear HO_383001
                            clear HO_383002
                            clear HO_383004
                            clear HO_396001
                            clear HO_396002
                            clear HO_396004
                            clear BK369
                            clear BK382
                            clear BK395
                            clear HB
                            have HO_370001 := n0_
                            have HO_370002 := n1_
                            have HO_370004 := n2_
                            have HO_383001 := n3_
                            have HO_383002 := n4_
                            have HO_383004 := n5_
                            have HO_396001 := n6_
                            have HO_396002 := n7_
                            have HO_396004 := n8_
                            have HO419 := n9_
                            have BK369 := n10_
                            have BK382 := n11_
                            have BK395 := n12_
                            have HB := n13_
                            clear n0_ n1_ n2_ n3_ n4_ n5_ n6_ n7_ n8_ n9_ n10_ n11_ n12_ n13_
                            clear hb ho72
                            refine hK.out _ _ ⟨(zC BK382.out 0).trans rfl, (zC BK382.out 1).trans rfl, (zC BK382.out 2).trans rfl, (zC BK382.out 3).trans rfl, (zC BK382.out 4).trans rfl, (zC BK369.out 0).trans rfl, (zC BK369.out 1).trans rfl, (zC BK369.out 2).trans rfl, (zC BK369.out 3).trans rfl, (zC BK369.out 4).trans rfl⟩ (fun hHeld => ?_)
                            clear hK K
                            refine norm_ (a' := ?_) ?_ ?_
                            rotate_left
                            · show Act.put _ (some 80) _ = _
                              simp only [Act.put, List.setIfInBounds_toArray, List.set_cons_zero, List.set_cons_succ, i64_w, i32_w]
                              rfl
                            refine one_ (i := 8) (N := some 74) #[true, true, true, true, true, true, true, true, true, true, true, false, true, true, true, false, false, false, false] rfl rfl (one_of HT_.out (by kernel_rfl)) (by decide) (fun K hK => ?_)
                            refine Kd.R_lit_step (Kd.int .u8) _ 5 ?hg (N := 74) ?hd (xs := ([] : List Int)) (inner := []) (ok := fun _ => True) (okp := fun _ => True) ?hr ?hp (fun _ hk => hk) trivial (Below.refl _ _) (Nat.le_refl _) (by simp) ?_; (case hd => rfl); (case hg => rfl); (case hr => first | (go_simp; done) | (go_simp; rfl)); (case hp => exact (Reps.none _ _))
                            intro v412 w73 ho74 hb hg_ hnew_
                            clear hg_ hnew_
                            (first | rw [← Ny411.out] at ho74 | (simp only [Int.reduceToNat] at ho74; rw [← Ny411.out] at ho74))
                            have n0_ := qM (Kd.R_below (by (with_reducible repeat (first | apply qA | apply qN | apply qD)); exact HO_370001.out) hb)
                            have n1_ := qM (Kd.R_below (by (with_reducible repeat (first | apply qA | apply qN | apply qD)); exact HO_370002.out) hb)
                            have n2_ := qM (Kd.R_elder' (by (with_reducible repeat (first | apply qA | apply qN | apply qD)); exact HO_370004.out) (Kd.R_base ho74) hb)
                            have n3_ := qM (Kd.R_below (by (with_reducible repeat (first | apply qA | apply qN | apply qD)); exact HO_383001.out) hb)
                            have n4_ := qM (Kd.R_below (by (with_reducible repeat (first | apply qA | apply qN | apply qD)); exact HO_383002.out) hb)
                            have n5_ := qM (Kd.R_elder' (by (with_reducible repeat (first | apply qA | apply qN | apply qD)); exact HO_383004.out) (Kd.R_base ho74) hb)
                            have n6_ := qM (Kd.R_below (by (with_reducible repeat (first | apply qA | apply qN | apply qD)); exact HO_396001.out) hb)
                            have n7_ := qM (Kd.R_below (by (with_reducible repeat (first | apply qA | apply qN | apply qD)); exact HO_396002.out) hb)
                            have n8_ := qM (Kd.R_elder' (by (with_reducible repeat (first | apply qA | apply qN | apply qD)); exact HO_396004.out) (Kd.R_base ho74) hb)
                            have n9_ := qM (Kd.R_elder' (by (with_reducible repeat (first | apply qA | apply qN | apply qD)); exact HO419.out) (Kd.R_base ho74) hb)
                            have n10_ := qM (Kd.R_lower (Kd.R_new' (Kd.R_new' (Kd.R_new' (Kd.R_new' ho74 (Kd.R_lt (by (with_reducible repeat (first | apply qA | apply qN | apply qD)); exact HO_370004.out))) (Kd.R_lt (by (with_reducible repeat (first | apply qA | apply qN | apply qD)); exact HO_383004.out))) (Kd.R_lt (by (with_reducible repeat (first | apply qA | apply qN | apply qD)); exact HO_396004.out))) (Kd.R_lt (by (with_reducible repeat (first | apply qA | apply qN | apply qD)); exact HO419.out))) (below_size (by repeat (first | (with_reducible first | exact HB.out | apply yA | apply yN | apply yD | refine yS ?_ GE369.out | refine yS ?_ GE382.out | refine yS ?_ GE395.out) | exact HB.out))))
                            have n11_ := qM (blk_below (g := gb369) (o := .cells #[.int .i64 t357, .slice Ao10 t358.length co10, .slice Ao11 t361.length co11, .int .i64 t364, .slice Ao12 t365.length co12] 48 (0, 0)) (by (with_reducible repeat (first | refine zN ?_ _ | refine zD ?_ | refine zA ?_ _)); exact BK369.out) hb)
                            have n12_ := qM (blk_below (g := gb382) (o := .cells #[.int .i64 t370, .slice Ao17 t371.length co17, .slice Ao18 t374.length co18, .int .i64 t377, .slice Ao19 t378.length co19] 48 (0, 0)) (by (with_reducible repeat (first | refine zN ?_ _ | refine zD ?_ | refine zA ?_ _)); exact BK382.out) hb)
                            have n13_ := qM (blk_below (g := gb395) (o := .cells #[.int .i64 t383, .slice Ao26 t384.length co26, .slice Ao27 t387.length co27, .int .i64 t390, .slice Ao28 t391.length co28] 48 (0, 0)) (by (with_reducible repeat (first | refine zN ?_ _ | refine zD ?_ | refine zA ?_ _)); exact BK395.out) hb)
                            have n14_ := qM (below_step (by repeat (first | (with_reducible first | exact HB.out | apply yA | apply yN | apply yD | refine yS ?_ GE369.out | refine yS ?_ GE382.out | refine yS ?_ GE395.out) | exact HB.out)) hb)
                            clear HO_370001
                            clear HO_370002
                            clear HO_370004
                            clear HO_383001
                            clear HO_383002
                            clear HO_383004
                            clear HO_396001
                            clear HO_396002
                            clear HO_396004
                            clear HO419
                            clear BK369
                            clear BK382
                            clear BK395
                            clear HB
                            have HO_370001 := n0_
                            have HO_370002 := n1_
                            have HO_370004 := n2_
                            have HO_383001 := n3_
                            have HO_383002 := n4_
                            have HO_383004 := n5_
                            have HO_396001 := n6_
                            have HO_396002 := n7_
                            have HO_396004 := n8_
                            have HO419 := n9_
                            have HO413 := n10_
                            have BK369 := n11_
                            have BK382 := n12_
                            have BK395 := n13_
                            have HB := n14_
                            clear n0_ n1_ n2_ n3_ n4_ n5_ n6_ n7_ n8_ n9_ n10_ n11_ n12_ n13_ n14_
                            clear hb ho74
                            refine hK.out _ _ ⟨(zC BK382.out 0).trans rfl, (zC BK382.out 1).trans rfl, (zC BK382.out 2).trans rfl, (zC BK382.out 3).trans rfl, (zC BK382.out 4).trans rfl, (zC BK369.out 0).trans rfl, (zC BK369.out 1).trans rfl, (zC BK369.out 2).trans rfl, (zC BK369.out 3).trans rfl, (zC BK369.out 4).trans rfl⟩ (fun hHeld => ?_)
                            clear hK K
                            refine norm_ (a' := ?_) ?_ ?_
                            rotate_left
                            · show Act.put _ (some 74) _ = _
                              simp only [Act.put, List.setIfInBounds_toArray, List.set_cons_zero, List.set_cons_succ, i64_w, i32_w]
                              rfl
                            refine one_ (i := 11) (N := some 77) #[true, true, true, true, true, true, true, true, true, true, true, true, true, true, true, false, false, false, false] rfl rfl (one_of HT_.out (by kernel_rfl)) (by decide) (fun K hK => ?_)
                            refine Kd.R_append_rows_step (Kd.int .u8) (w0 := w) w.heap.size (by rfl) (.tmp 74) (.tmp 76) 25 5 (.int .u8 0) 1 rfl Try.underlying25 info5 rfl (by decide) (by omega) v412 y411 t365 _ _ _ (fun k_ => some k_ ≠ (.slice Ao12 t365.length co12 : Value).ownBlock ∧ some k_ ≠ (.slice Ao19 t378.length co19 : Value).ownBlock ∧ some k_ ≠ (.slice Ao28 t391.length co28 : Value).ownBlock ∧ some k_ ≠ (v418 : Value).ownBlock) (fun _ => False) rfl rfl ?aO ?aR (fun _ _ h => h) (fun _ h => h.elim) ?aF ?aB ?aS ?aL ?_
                            (case aR => repeat (first | exact (qR HO_370004.out).2.2 | (with_reducible refine Kd.C_alloc ?_ _) | (with_reducible refine Kd.C_drewN ?_ _) | (with_reducible refine Kd.C_drew ?_)))
                            (case aB => exact (by repeat (first | (with_reducible first | exact HB.out | apply yA | apply yN | apply yD | refine yS ?_ GE369.out | refine yS ?_ GE382.out | refine yS ?_ GE395.out) | exact HB.out)))
                            (case aF => exact (fun k_ hk => ⟨Kd.fresh' (Kd.R_lt (by (with_reducible repeat (first | apply qA | apply qN | apply qD)); exact HO_370004.out)) k_ hk, Kd.fresh' (Kd.R_lt (by (with_reducible repeat (first | apply qA | apply qN | apply qD)); exact HO_383004.out)) k_ hk, Kd.fresh' (Kd.R_lt (by (with_reducible repeat (first | apply qA | apply qN | apply qD)); exact HO_396004.out)) k_ hk, Kd.fresh' (Kd.R_lt (by (with_reducible repeat (first | apply qA | apply qN | apply qD)); exact HO419.out)) k_ hk⟩))
                            (case aO => exact (by (with_reducible repeat (first | apply qA | apply qN | apply qD)); exact Kd.R_mono HO413.out (fun _ hk => ⟨hk.1.1.1.2, ⟨hk.1.1.2, ⟨hk.1.2, hk.2⟩⟩⟩)))
                            (case aS => exact (below_size (by repeat (first | (with_reducible first | exact HB.out | apply yA | apply yN | apply yD | refine yS ?_ GE369.out | refine yS ?_ GE382.out | refine yS ?_ GE395.out) | exact HB.out))))
                            (case aL => have := LMc66.out; omega)
                            intro v415 w75 ho hb hg hat
                            rw [← Ny414.out] at ho
                            have n0_ := qM (Kd.R_over' (by (with_reducible repeat (first | apply qA | apply qN | apply qD)); exact HO_370001.out) (Kd.R_typed (by (with_reducible repeat (first | apply qA | apply qN | apply qD)); exact HO413.out)) (by decide) hg)
                            have n1_ := qM (Kd.R_over' (by (with_reducible repeat (first | apply qA | apply qN | apply qD)); exact HO_370002.out) (Kd.R_typed (by (with_reducible repeat (first | apply qA | apply qN | apply qD)); exact HO413.out)) (by decide) hg)
                            have n2_ := qM (Kd.R_after (ok := (fun k_ => some k_ ≠ (.slice Ao19 t378.length co19 : Value).ownBlock ∧ some k_ ≠ (.slice Ao28 t391.length co28 : Value).ownBlock ∧ some k_ ≠ (v418 : Value).ownBlock)) (by (with_reducible repeat (first | apply qA | apply qN | apply qD)); exact Kd.R_mono HO_370004.out (fun _ hk => ⟨⟨hk.1.1.1, ⟨hk.1.1.2, hk.1.2⟩⟩, hk.2⟩)) hg hat)
                            have n3_ := qM (Kd.R_over' (by (with_reducible repeat (first | apply qA | apply qN | apply qD)); exact HO_383001.out) (Kd.R_typed (by (with_reducible repeat (first | apply qA | apply qN | apply qD)); exact HO413.out)) (by decide) hg)
                            have n4_ := qM (Kd.R_over' (by (with_reducible repeat (first | apply qA | apply qN | apply qD)); exact HO_383002.out) (Kd.R_typed (by (with_reducible repeat (first | apply qA | apply qN | apply qD)); exact HO413.out)) (by decide) hg)
                            have n5_ := qM (Kd.R_after (ok := (fun k_ => some k_ ≠ (.slice Ao12 t365.length co12 : Value).ownBlock ∧ some k_ ≠ (.slice Ao28 t391.length co28 : Value).ownBlock ∧ some k_ ≠ (v418 : Value).ownBlock)) (by (with_reducible repeat (first | apply qA | apply qN | apply qD)); exact Kd.R_mono HO_383004.out (fun _ hk => ⟨⟨hk.1.1.1, ⟨hk.1.1.2, hk.1.2⟩⟩, hk.2⟩)) hg hat)
                            have n6_ := qM (Kd.R_over' (by (with_reducible repeat (first | apply qA | apply qN | apply qD)); exact HO_396001.out) (Kd.R_typed (by (with_reducible repeat (first | apply qA | apply qN | apply qD)); exact HO413.out)) (by decide) hg)
                            have n7_ := qM (Kd.R_over' (by (with_reducible repeat (first | apply qA | apply qN | apply qD)); exact HO_396002.out) (Kd.R_typed (by (with_reducible repeat (first | apply qA | apply qN | apply qD)); exact HO413.out)) (by decide) hg)
                            have n8_ := qM (Kd.R_after (ok := (fun k_ => some k_ ≠ (.slice Ao12 t365.length co12 : Value).ownBlock ∧ some k_ ≠ (.slice Ao19 t378.length co19 : Value).ownBlock ∧ some k_ ≠ (v418 : Value).ownBlock)) (by (with_reducible repeat (first | apply qA | apply qN | apply qD)); exact Kd.R_mono HO_396004.out (fun _ hk => ⟨⟨hk.1.1.1, ⟨hk.1.1.2, hk.1.2⟩⟩, hk.2⟩)) hg hat)
                            have n9_ := qM (blk_grown (g := gb369) (o := .cells #[.int .i64 t357, .slice Ao10 t358.length co10, .slice Ao11 t361.length co11, .int .i64 t364, .slice Ao12 t365.length co12] 48 (0, 0)) (by (with_reducible repeat (first | refine zN ?_ _ | refine zD ?_ | refine zA ?_ _)); exact BK369.out) hg (Kd.R_ne HO413.out BK369.out (by decide)))
                            have n10_ := qM (blk_grown (g := gb382) (o := .cells #[.int .i64 t370, .slice Ao17 t371.length co17, .slice Ao18 t374.length co18, .int .i64 t377, .slice Ao19 t378.length co19] 48 (0, 0)) (by (with_reducible repeat (first | refine zN ?_ _ | refine zD ?_ | refine zA ?_ _)); exact BK382.out) hg (Kd.R_ne HO413.out BK382.out (by decide)))
                            have n11_ := qM (blk_grown (g := gb395) (o := .cells #[.int .i64 t383, .slice Ao26 t384.length co26, .slice Ao27 t387.length co27, .int .i64 t390, .slice Ao28 t391.length co28] 48 (0, 0)) (by (with_reducible repeat (first | refine zN ?_ _ | refine zD ?_ | refine zA ?_ _)); exact BK395.out) hg (Kd.R_ne HO413.out BK395.out (by decide)))
                            have n12_ := qM (Kd.R_after (ok := (fun k_ => some k_ ≠ (.slice Ao12 t365.length co12 : Value).ownBlock ∧ some k_ ≠ (.slice Ao19 t378.length co19 : Value).ownBlock ∧ some k_ ≠ (.slice Ao28 t391.length co28 : Value).ownBlock)) (by (with_reducible repeat (first | apply qA | apply qN | apply qD)); exact Kd.R_mono HO419.out (fun _ hk => ⟨⟨hk.1.1.1.2, ⟨hk.1.1.2, hk.1.2⟩⟩, hk.2⟩)) hg hat)
                            have n13_ := qM (hb)
                            have n14_ := qM (ho)
                            clear HO_370001
                            clear HO_370002
                            clear HO_370004
                            clear HO_383001
                            clear HO_383002
                            clear HO_383004
                            clear HO_396001
                            clear HO_396002
                            clear HO_396004
                            clear BK369
                            clear BK382
                            clear BK395
                            clear HO419
                            clear HB
                            clear HO413
                            have HO_370001 := n0_
                            have HO_370002 := n1_
                            have HO_370004 := n2_
                            have HO_383001 := n3_
                            have HO_383002 := n4_
                            have HO_383004 := n5_
                            have HO_396001 := n6_
                            have HO_396002 := n7_
                            have HO_396004 := n8_
                            have BK369 := n9_
                            have BK382 := n10_
                            have BK395 := n11_
                            have HO419 := n12_
                            have HB := n13_
                            have HO416 := n14_
                            clear n0_ n1_ n2_ n3_ n4_ n5_ n6_ n7_ n8_ n9_ n10_ n11_ n12_ n13_ n14_
                            clear ho hb hg hat
                            refine hK.out _ _ ⟨(zC BK382.out 0).trans rfl, (zC BK382.out 1).trans rfl, (zC BK382.out 2).trans rfl, (zC BK382.out 3).trans rfl, (zC BK382.out 4).trans rfl, (zC BK369.out 0).trans rfl, (zC BK369.out 1).trans rfl, (zC BK369.out 2).trans rfl, (zC BK369.out 3).trans rfl, (zC BK369.out 4).trans rfl⟩ (fun hHeld => ?_)
                            clear hK K
                            refine norm_ (a' := ?_) ?_ ?_
                            rotate_left
                            · show Act.put _ (some 77) _ = _
                              simp only [Act.put, List.setIfInBounds_toArray, List.set_cons_zero, List.set_cons_succ, i64_w, i32_w]
                              rfl
                            exact norm_ (by simp only [putAll, Act.put, List.setIfInBounds_toArray, List.set_cons_zero, List.set_cons_succ]) (hCont (v412, v415, v418) _ ⟨hHeld, (by (with_reducible repeat (first | apply qA | apply qN | apply qD)); exact Kd.R_mono HO416.out (fun _ hk => ⟨hk.2.2.2, ⟨hk.1, ⟨hk.2.1, hk.2.2.1⟩⟩⟩)), (by (with_reducible repeat (first | apply qA | apply qN | apply qD)); exact Kd.R_mono HO419.out (fun _ hk => ⟨hk.2, ⟨hk.1.1, ⟨hk.1.2.1, hk.1.2.2⟩⟩⟩)), (by (with_reducible repeat (first | apply qA | apply qN | apply qD)); exact HO_370001.out), (by (with_reducible repeat (first | apply qA | apply qN | apply qD)); exact HO_370002.out), (by (with_reducible repeat (first | apply qA | apply qN | apply qD)); exact Kd.R_mono HO_370004.out (fun _ hk => ⟨hk.2, ⟨hk.1.2.2, ⟨hk.1.1, hk.1.2.1⟩⟩⟩)), (by (with_reducible repeat (first | apply qA | apply qN | apply qD)); exact HO_383001.out), (by (with_reducible repeat (first | apply qA | apply qN | apply qD)); exact HO_383002.out), (by (with_reducible repeat (first | apply qA | apply qN | apply qD)); exact Kd.R_mono HO_383004.out (fun _ hk => ⟨hk.2, ⟨hk.1.2.2, ⟨hk.1.1, hk.1.2.1⟩⟩⟩)), (by (with_reducible repeat (first | apply qA | apply qN | apply qD)); exact HO_396001.out), (by (with_reducible repeat (first | apply qA | apply qN | apply qD)); exact HO_396002.out), (by (with_reducible repeat (first | apply qA | apply qN | apply qD)); exact Kd.R_mono HO_396004.out (fun _ hk => ⟨hk.2, ⟨hk.1.2.2, ⟨hk.1.1, hk.1.2.1⟩⟩⟩)), (by (with_reducible repeat (first | refine zN ?_ _ | refine zD ?_ | refine zA ?_ _)); exact BK369.out), (by (with_reducible repeat (first | refine zN ?_ _ | refine zD ?_ | refine zA ?_ _)); exact BK382.out), (by (with_reducible repeat (first | refine zN ?_ _ | refine zD ?_ | refine zA ?_ _)); exact BK395.out), (by repeat (first | (with_reducible first | exact HB.out | apply yA | apply yN | apply yD | refine yS ?_ GE369.out | refine yS ?_ GE382.out | refine yS ?_ GE395.out) | exact HB.out))⟩)
                        rintro ⟨v412, v415, v418⟩ w76 ⟨hS_, h0_, h1_, h2_, h3_, h4_, h5_, h6_, h7_, h8_, h9_, h10_, h11_, h12_, h13_, h14_⟩
                        have n0_ : Aside0 (Kd.R (Kd.int .u8) 5 w76 w.heap.size (fun k_ => some k_ ≠ (v418 : Value).ownBlock ∧ some k_ ≠ (.slice Ao12 t365.length co12 : Value).ownBlock ∧ some k_ ≠ (.slice Ao19 t378.length co19 : Value).ownBlock ∧ some k_ ≠ (.slice Ao28 t391.length co28 : Value).ownBlock) v415 y414) := ⟨h0_⟩
                        have n1_ : Aside0 (Kd.R (Kd.int .u8) 5 w76 w.heap.size (fun k_ => some k_ ≠ (v415 : Value).ownBlock ∧ some k_ ≠ (.slice Ao12 t365.length co12 : Value).ownBlock ∧ some k_ ≠ (.slice Ao19 t378.length co19 : Value).ownBlock ∧ some k_ ≠ (.slice Ao28 t391.length co28 : Value).ownBlock) v418 y417) := ⟨h1_⟩
                        have n2_ : Aside0 (Kd.R (Kd.int .i64) 3 w76 w.heap.size (fun k_ => some k_ ≠ (.slice Ao11 t361.length co11 : Value).ownBlock ∧ some k_ ≠ (.slice Ao17 t371.length co17 : Value).ownBlock ∧ some k_ ≠ (.slice Ao18 t374.length co18 : Value).ownBlock ∧ some k_ ≠ (.slice Ao26 t384.length co26 : Value).ownBlock ∧ some k_ ≠ (.slice Ao27 t387.length co27 : Value).ownBlock) (.slice Ao10 t358.length co10) t358) := ⟨h2_⟩
                        have n3_ : Aside0 (Kd.R (Kd.int .i64) 3 w76 w.heap.size (fun k_ => some k_ ≠ (.slice Ao10 t358.length co10 : Value).ownBlock ∧ some k_ ≠ (.slice Ao17 t371.length co17 : Value).ownBlock ∧ some k_ ≠ (.slice Ao18 t374.length co18 : Value).ownBlock ∧ some k_ ≠ (.slice Ao26 t384.length co26 : Value).ownBlock ∧ some k_ ≠ (.slice Ao27 t387.length co27 : Value).ownBlock) (.slice Ao11 t361.length co11) t361) := ⟨h3_⟩
                        have n4_ : Aside0 (Kd.R (Kd.int .u8) 5 w76 w.heap.size (fun k_ => some k_ ≠ (v415 : Value).ownBlock ∧ some k_ ≠ (v418 : Value).ownBlock ∧ some k_ ≠ (.slice Ao19 t378.length co19 : Value).ownBlock ∧ some k_ ≠ (.slice Ao28 t391.length co28 : Value).ownBlock) (.slice Ao12 t365.length co12) t365) := ⟨h4_⟩
                        have n5_ : Aside0 (Kd.R (Kd.int .i64) 3 w76 w.heap.size (fun k_ => some k_ ≠ (.slice Ao10 t358.length co10 : Value).ownBlock ∧ some k_ ≠ (.slice Ao11 t361.length co11 : Value).ownBlock ∧ some k_ ≠ (.slice Ao18 t374.length co18 : Value).ownBlock ∧ some k_ ≠ (.slice Ao26 t384.length co26 : Value).ownBlock ∧ some k_ ≠ (.slice Ao27 t387.length co27 : Value).ownBlock) (.slice Ao17 t371.length co17) t371) := ⟨h5_⟩
                        have n6_ : Aside0 (Kd.R (Kd.int .i64) 3 w76 w.heap.size (fun k_ => some k_ ≠ (.slice Ao10 t358.length co10 : Value).ownBlock ∧ some k_ ≠ (.slice Ao11 t361.length co11 : Value).ownBlock ∧ some k_ ≠ (.slice Ao17 t371.length co17 : Value).ownBlock ∧ some k_ ≠ (.slice Ao26 t384.length co26 : Value).ownBlock ∧ some k_ ≠ (.slice Ao27 t387.length co27 : Value).ownBlock) (.slice Ao18 t374.length co18) t374) := ⟨h6_⟩
                        have n7_ : Aside0 (Kd.R (Kd.int .u8) 5 w76 w.heap.size (fun k_ => some k_ ≠ (v415 : Value).ownBlock ∧ some k_ ≠ (v418 : Value).ownBlock ∧ some k_ ≠ (.slice Ao12 t365.length co12 : Value).ownBlock ∧ some k_ ≠ (.slice Ao28 t391.length co28 : Value).ownBlock) (.slice Ao19 t378.length co19) t378) := ⟨h7_⟩
                        have n8_ : Aside0 (Kd.R (Kd.int .i64) 3 w76 w.heap.size (fun k_ => some k_ ≠ (.slice Ao10 t358.length co10 : Value).ownBlock ∧ some k_ ≠ (.slice Ao11 t361.length co11 : Value).ownBlock ∧ some k_ ≠ (.slice Ao17 t371.length co17 : Value).ownBlock ∧ some k_ ≠ (.slice Ao18 t374.length co18 : Value).ownBlock ∧ some k_ ≠ (.slice Ao27 t387.length co27 : Value).ownBlock) (.slice Ao26 t384.length co26) t384) := ⟨h8_⟩
                        have n9_ : Aside0 (Kd.R (Kd.int .i64) 3 w76 w.heap.size (fun k_ => some k_ ≠ (.slice Ao10 t358.length co10 : Value).ownBlock ∧ some k_ ≠ (.slice Ao11 t361.length co11 : Value).ownBlock ∧ some k_ ≠ (.slice Ao17 t371.length co17 : Value).ownBlock ∧ some k_ ≠ (.slice Ao18 t374.length co18 : Value).ownBlock ∧ some k_ ≠ (.slice Ao26 t384.length co26 : Value).ownBlock) (.slice Ao27 t387.length co27) t387) := ⟨h9_⟩
                        have n10_ : Aside0 (Kd.R (Kd.int .u8) 5 w76 w.heap.size (fun k_ => some k_ ≠ (v415 : Value).ownBlock ∧ some k_ ≠ (v418 : Value).ownBlock ∧ some k_ ≠ (.slice Ao12 t365.length co12 : Value).ownBlock ∧ some k_ ≠ (.slice Ao19 t378.length co19 : Value).ownBlock) (.slice Ao28 t391.length co28) t391) := ⟨h10_⟩
                        have n11_ : Aside0 (w76.heap[gb369]? = some (.cells #[.int .i64 t357, .slice Ao10 t358.length co10, .slice Ao11 t361.length co11, .int .i64 t364, .slice Ao12 t365.length co12] 48 (0, 0))) := ⟨h11_⟩
                        have n12_ : Aside0 (w76.heap[gb382]? = some (.cells #[.int .i64 t370, .slice Ao17 t371.length co17, .slice Ao18 t374.length co18, .int .i64 t377, .slice Ao19 t378.length co19] 48 (0, 0))) := ⟨h12_⟩
                        have n13_ : Aside0 (w76.heap[gb395]? = some (.cells #[.int .i64 t383, .slice Ao26 t384.length co26, .slice Ao27 t387.length co27, .int .i64 t390, .slice Ao28 t391.length co28] 48 (0, 0))) := ⟨h13_⟩
                        have n14_ : Aside0 (Below w.heap.size w w76) := ⟨h14_⟩
                        clear HO_370001
                        clear HO_370002
                        clear HO_370004
                        clear HO_383001
                        clear HO_383002
                        clear HO_383004
                        clear HO_396001
                        clear HO_396002
                        clear HO_396004
                        clear BK369
                        clear BK382
                        clear BK395
                        clear HB
                        clear h0_ h1_ h2_ h3_ h4_ h5_ h6_ h7_ h8_ h9_ h10_ h11_ h12_ h13_ h14_
                        have HO416 := n0_
                        have HO419 := n1_
                        have HO_370001 := n2_
                        have HO_370002 := n3_
                        have HO_370004 := n4_
                        have HO_383001 := n5_
                        have HO_383002 := n6_
                        have HO_383004 := n7_
                        have HO_396001 := n8_
                        have HO_396002 := n9_
                        have HO_396004 := n10_
                        have BK369 := n11_
                        have BK382 := n12_
                        have BK395 := n13_
                        have HB := n14_
                        clear n0_ n1_ n2_ n3_ n4_ n5_ n6_ n7_ n8_ n9_ n10_ n11_ n12_ n13_ n14_
                        have hHeld : w76.cell? ⟨gb382, 0, none⟩ = some (.int .i64 t370) ∧ w76.cell? ⟨gb382, 1, none⟩ = some (.slice Ao17 t371.length co17) ∧ w76.cell? ⟨gb382, 2, none⟩ = some (.slice Ao18 t374.length co18) ∧ w76.cell? ⟨gb382, 3, none⟩ = some (.int .i64 t377) ∧ w76.cell? ⟨gb382, 4, none⟩ = some (.slice Ao19 t378.length co19) ∧ w76.cell? ⟨gb369, 0, none⟩ = some (.int .i64 t357) ∧ w76.cell? ⟨gb369, 1, none⟩ = some (.slice Ao10 t358.length co10) ∧ w76.cell? ⟨gb369, 2, none⟩ = some (.slice Ao11 t361.length co11) ∧ w76.cell? ⟨gb369, 3, none⟩ = some (.int .i64 t364) ∧ w76.cell? ⟨gb369, 4, none⟩ = some (.slice Ao12 t365.length co12) := hS_
                        obtain ⟨Ao78, co78, eo78⟩ := Kd.R_slice HO419.out
                        (first | subst eo78 | (injection eo78 with f1_ f2_ f3_; have f4_ := f1_.symm; have f5_ := f3_.symm; clear f1_ f2_ f3_; subst f4_; subst f5_))
                        refine norm_ (a' := ?_) ?_ ?_
                        rotate_left
                        · simp only [putAll, Act.put, List.setIfInBounds_toArray, List.set_cons_zero, List.set_cons_succ]
                          rfl
                        refine one_ (i := 15) (N := some 81) #[true, true, true, true, true, true, true, true, true, true, true, true, true, true, true, true, false, false, false] rfl rfl (one_of HT_.out (by kernel_rfl)) (by decide) (fun K hK => ?_)
                        refine Kd.R_append_rows_step (Kd.int .u8) (w0 := w) w.heap.size (by rfl) (.tmp 77) (.tmp 80) 25 5 (.int .u8 0) 1 rfl Try.underlying25 info5 rfl (by decide) (by omega) v415 y414 y417 _ _ _ (fun k_ => some k_ ≠ (.slice Ao12 t365.length co12 : Value).ownBlock ∧ some k_ ≠ (.slice Ao19 t378.length co19 : Value).ownBlock ∧ some k_ ≠ (.slice Ao28 t391.length co28 : Value).ownBlock ∧ some k_ ≠ (.slice Ao78 y417.length co78 : Value).ownBlock) (fun _ => False) rfl rfl ?aO ?aR (fun _ _ h => h) (fun _ h => h.elim) ?aF ?aB ?aS ?aL ?_
                        (case aR => repeat (first | exact (qR HO419.out).2.2 | (with_reducible refine Kd.C_alloc ?_ _) | (with_reducible refine Kd.C_drewN ?_ _) | (with_reducible refine Kd.C_drew ?_)))
                        (case aB => exact (by repeat (first | (with_reducible first | exact HB.out | apply yA | apply yN | apply yD | refine yS ?_ GE369.out | refine yS ?_ GE382.out | refine yS ?_ GE395.out) | exact HB.out)))
                        (case aF => exact (fun k_ hk => ⟨Kd.fresh' (Kd.R_lt (by (with_reducible repeat (first | apply qA | apply qN | apply qD)); exact HO_370004.out)) k_ hk, Kd.fresh' (Kd.R_lt (by (with_reducible repeat (first | apply qA | apply qN | apply qD)); exact HO_383004.out)) k_ hk, Kd.fresh' (Kd.R_lt (by (with_reducible repeat (first | apply qA | apply qN | apply qD)); exact HO_396004.out)) k_ hk, Kd.fresh' (Kd.R_lt (by (with_reducible repeat (first | apply qA | apply qN | apply qD)); exact HO419.out)) k_ hk⟩))
                        (case aO => exact (by (with_reducible repeat (first | apply qA | apply qN | apply qD)); exact Kd.R_mono HO416.out (fun _ hk => ⟨hk.2.1, ⟨hk.2.2.1, ⟨hk.2.2.2, hk.1⟩⟩⟩)))
                        (case aS => exact (below_size (by repeat (first | (with_reducible first | exact HB.out | apply yA | apply yN | apply yD | refine yS ?_ GE369.out | refine yS ?_ GE382.out | refine yS ?_ GE395.out) | exact HB.out))))
                        (case aL => have := LMc67.out; omega)
                        intro v421 w77 ho hb hg hat
                        rw [← Ny420.out] at ho
                        have n0_ := qM (Kd.R_over' (by (with_reducible repeat (first | apply qA | apply qN | apply qD)); exact HO_370001.out) (Kd.R_typed (by (with_reducible repeat (first | apply qA | apply qN | apply qD)); exact HO416.out)) (by decide) hg)
                        have n1_ := qM (Kd.R_over' (by (with_reducible repeat (first | apply qA | apply qN | apply qD)); exact HO_370002.out) (Kd.R_typed (by (with_reducible repeat (first | apply qA | apply qN | apply qD)); exact HO416.out)) (by decide) hg)
                        have n2_ := qM (Kd.R_after (ok := (fun k_ => some k_ ≠ (.slice Ao19 t378.length co19 : Value).ownBlock ∧ some k_ ≠ (.slice Ao28 t391.length co28 : Value).ownBlock ∧ some k_ ≠ (.slice Ao78 y417.length co78 : Value).ownBlock)) (by (with_reducible repeat (first | apply qA | apply qN | apply qD)); exact Kd.R_mono HO_370004.out (fun _ hk => ⟨⟨hk.2.2.1, ⟨hk.2.2.2, hk.2.1⟩⟩, hk.1⟩)) hg hat)
                        have n3_ := qM (Kd.R_over' (by (with_reducible repeat (first | apply qA | apply qN | apply qD)); exact HO_383001.out) (Kd.R_typed (by (with_reducible repeat (first | apply qA | apply qN | apply qD)); exact HO416.out)) (by decide) hg)
                        have n4_ := qM (Kd.R_over' (by (with_reducible repeat (first | apply qA | apply qN | apply qD)); exact HO_383002.out) (Kd.R_typed (by (with_reducible repeat (first | apply qA | apply qN | apply qD)); exact HO416.out)) (by decide) hg)
                        have n5_ := qM (Kd.R_after (ok := (fun k_ => some k_ ≠ (.slice Ao12 t365.length co12 : Value).ownBlock ∧ some k_ ≠ (.slice Ao28 t391.length co28 : Value).ownBlock ∧ some k_ ≠ (.slice Ao78 y417.length co78 : Value).ownBlock)) (by (with_reducible repeat (first | apply qA | apply qN | apply qD)); exact Kd.R_mono HO_383004.out (fun _ hk => ⟨⟨hk.2.2.1, ⟨hk.2.2.2, hk.2.1⟩⟩, hk.1⟩)) hg hat)
                        have n6_ := qM (Kd.R_over' (by (with_reducible repeat (first | apply qA | apply qN | apply qD)); exact HO_396001.out) (Kd.R_typed (by (with_reducible repeat (first | apply qA | apply qN | apply qD)); exact HO416.out)) (by decide) hg)
                        have n7_ := qM (Kd.R_over' (by (with_reducible repeat (first | apply qA | apply qN | apply qD)); exact HO_396002.out) (Kd.R_typed (by (with_reducible repeat (first | apply qA | apply qN | apply qD)); exact HO416.out)) (by decide) hg)
                        have n8_ := qM (Kd.R_after (ok := (fun k_ => some k_ ≠ (.slice Ao12 t365.length co12 : Value).ownBlock ∧ some k_ ≠ (.slice Ao19 t378.length co19 : Value).ownBlock ∧ some k_ ≠ (.slice Ao78 y417.length co78 : Value).ownBlock)) (by (with_reducible repeat (first | apply qA | apply qN | apply qD)); exact Kd.R_mono HO_396004.out (fun _ hk => ⟨⟨hk.2.2.1, ⟨hk.2.2.2, hk.2.1⟩⟩, hk.1⟩)) hg hat)
                        have n9_ := qM (blk_grown (g := gb369) (o := .cells #[.int .i64 t357, .slice Ao10 t358.length co10, .slice Ao11 t361.length co11, .int .i64 t364, .slice Ao12 t365.length co12] 48 (0, 0)) (by (with_reducible repeat (first | refine zN ?_ _ | refine zD ?_ | refine zA ?_ _)); exact BK369.out) hg (Kd.R_ne HO416.out BK369.out (by decide)))
                        have n10_ := qM (blk_grown (g := gb382) (o := .cells #[.int .i64 t370, .slice Ao17 t371.length co17, .slice Ao18 t374.length co18, .int .i64 t377, .slice Ao19 t378.length co19] 48 (0, 0)) (by (with_reducible repeat (first | refine zN ?_ _ | refine zD ?_ | refine zA ?_ _)); exact BK382.out) hg (Kd.R_ne HO416.out BK382.out (by decide)))
                        have n11_ := qM (blk_grown (g := gb395) (o := .cells #[.int .i64 t383, .slice Ao26 t384.length co26, .slice Ao27 t387.length co27, .int .i64 t390, .slice Ao28 t391.length co28] 48 (0, 0)) (by (with_reducible repeat (first | refine zN ?_ _ | refine zD ?_ | refine zA ?_ _)); exact BK395.out) hg (Kd.R_ne HO416.out BK395.out (by decide)))
                        have n12_ := qM (Kd.R_after (ok := (fun k_ => some k_ ≠ (.slice Ao12 t365.length co12 : Value).ownBlock ∧ some k_ ≠ (.slice Ao19 t378.length co19 : Value).ownBlock ∧ some k_ ≠ (.slice Ao28 t391.length co28 : Value).ownBlock)) (by (with_reducible repeat (first | apply qA | apply qN | apply qD)); exact Kd.R_mono HO419.out (fun _ hk => ⟨⟨hk.2.1, ⟨hk.2.2.1, hk.2.2.2⟩⟩, hk.1⟩)) hg hat)
                        have n13_ := qM (hb)
                        have n14_ := qM (ho)
                        clear HO_370001
                        clear HO_370002
                        clear HO_370004
                        clear HO_383001
                        clear HO_383002
                        clear HO_383004
                        clear HO_396001
                        clear HO_396002
                        clear HO_396004
                        clear BK369
                        clear BK382
                        clear BK395
                        clear HO419
                        clear HB
                        clear HO416
                        have HO_370001 := n0_
                        have HO_370002 := n1_
                        have HO_370004 := n2_
                        have HO_383001 := n3_
                        have HO_383002 := n4_
                        have HO_383004 := n5_
                        have HO_396001 := n6_
                        have HO_396002 := n7_
                        have HO_396004 := n8_
                        have BK369 := n9_
                        have BK382 := n10_
                        have BK395 := n11_
                        have HO419 := n12_
                        have HB := n13_
                        have HO422 := n14_
                        clear n0_ n1_ n2_ n3_ n4_ n5_ n6_ n7_ n8_ n9_ n10_ n11_ n12_ n13_ n14_
                        clear ho hb hg hat
                        obtain ⟨Ao79, co79, eo79⟩ := Kd.R_slice HO422.out
                        (first | subst eo79 | (injection eo79 with f1_ f2_ f3_; have f4_ := f1_.symm; have f5_ := f3_.symm; clear f1_ f2_ f3_; subst f4_; subst f5_))
                        refine hK.out _ _ ⟨(zC BK382.out 0).trans rfl, (zC BK382.out 1).trans rfl, (zC BK382.out 2).trans rfl, (zC BK382.out 3).trans rfl, (zC BK382.out 4).trans rfl, (zC BK369.out 0).trans rfl, (zC BK369.out 1).trans rfl, (zC BK369.out 2).trans rfl, (zC BK369.out 3).trans rfl, (zC BK369.out 4).trans rfl⟩ (fun hHeld => ?_)
                        clear hK K
                        refine norm_ (a' := ?_) ?_ ?_
                        rotate_left
                        · show Act.put _ (some 81) _ = _
                          simp only [Act.put, List.setIfInBounds_toArray, List.set_cons_zero, List.set_cons_succ, i64_w, i32_w]
                          rfl
                        refine one_ (i := 16) (N := some 82) #[true, true, true, true, true, true, true, true, true, true, true, true, true, true, true, true, true, false, false] rfl rfl (one_of HT_.out (by kernel_rfl)) (by decide) (fun K hK => ?_)
                        refine goes_ Try.func43 (by kernel_rfl) rfl #[.slice Ao19 t378.length co19, .slice Ao79 y420.length co79] (by rfl) rfl rfl (by (try simp only [List.map_toArray, List.map_cons, List.map_nil]); first | done | rfl | (simp only [List.length_drop, List.length_take]; rfl)) ?_
                        with_reducible refine (laws_caBytes.calls _ _ t378 _ _ y420 t423 _ ?side1 ?side2 ?side3 ?side4 A68.out).mono ?_
                        (case side1 => repeat (first | exact (qR HO_383004.out).2.2 | (with_reducible refine Kd.C_alloc ?_ _) | (with_reducible refine Kd.C_drewN ?_ _) | (with_reducible refine Kd.C_drew ?_)))
                        (case side2 => exact (qR HO_383004.out).2.1)
                        (case side3 => repeat (first | exact (qR HO422.out).2.2 | (with_reducible refine Kd.C_alloc ?_ _) | (with_reducible refine Kd.C_drewN ?_ _) | (with_reducible refine Kd.C_drew ?_)))
                        (case side4 => exact (qR HO422.out).2.1)
                        rintro e w' ⟨rfl, ⟨nd, rfl⟩⟩
                        refine ⟨_, rfl, ?_⟩
                        refine hK.out _ _ ⟨(zC BK382.out 0).trans rfl, (zC BK382.out 1).trans rfl, (zC BK382.out 2).trans rfl, (zC BK382.out 3).trans rfl, (zC BK382.out 4).trans rfl, (zC BK369.out 0).trans rfl, (zC BK369.out 1).trans rfl, (zC BK369.out 2).trans rfl, (zC BK369.out 3).trans rfl, (zC BK369.out 4).trans rfl⟩ (fun hHeld => ?_)
                        clear hK K
                        refine norm_ (a' := ?_) ?_ ?_
                        rotate_left
                        · show Act.put _ (some 82) _ = _
                          simp only [Act.put, List.setIfInBounds_toArray, List.set_cons_zero, List.set_cons_succ, i64_w, i32_w]
                          rfl
                        refine pure_ (i := 17) (N := some 83) (v := ?_) (a' := ?_) #[true, true, true, true, true, true, true, true, true, true, true, true, true, true, true, true, true, true, false] rfl rfl (any_of HT_.out (by kernel_rfl)) (fun _ _ _ h => h) (Or.inl ⟨by rfl, ?_⟩) ?_ ?_
                        rotate_left
                        · intro w'
                          go_simp
                          with_reducible rfl
                        rotate_left
                        · simp only [Act.put, List.setIfInBounds_toArray, List.set_cons_zero, List.set_cons_succ, i64_w, i32_w]
                          rfl
                        refine pure_ (i := 18) (N := some 2) (v := ?_) (a' := ?_) #[true, true, true, true, true, true, true, true, true, true, true, true, true, true, true, true, true, true, true] rfl rfl (any_of HT_.out (by kernel_rfl)) (fun _ _ _ h => h) (Or.inl ⟨by rfl, ?_⟩) ?_ ?_
                        rotate_left
                        · intro w'
                          go_simp
                          with_reducible rfl
                        rotate_left
                        · simp only [Act.put, List.setIfInBounds_toArray, List.set_cons_zero, List.set_cons_succ, i64_w, i32_w]
                          rfl
                        refine done_ (done_of HT_.out (by kernel_rfl)) ?_
                        try go_wp2
                        go_ret
                        exact ⟨by first | rfl | (simp [errW_none, errW_some] <;> rfl) | (simp [*, errW_none, errW_some] <;> rfl), by repeat (first | (with_reducible first | exact HB.out | apply yA | apply yN | apply yD | refine yS ?_ GE369.out | refine yS ?_ GE382.out | refine yS ?_ GE395.out) | exact HB.out)⟩
                      · rw [if_neg c67] at H
                        exact absurd H (by simp)
                    · rw [if_neg c66] at H
                      exact absurd H (by simp)
                  · replace c65 := Bool.eq_false_iff.mpr c65
                    subst c65
                    have H1 : (some false) = some r := by rw [if_neg (show ¬ (false = true) by decide)] at H; exact H
                    clear H
                    have H := H1
                    clear H1
                    exact absurd ((Option.some.inj H).trans hr_) (by decide)
                · replace c63 := Bool.eq_false_iff.mpr c63
                  subst c63
                  have H1 : ((laws_caCell.f kj37 t370 t371 t374 t377 t378 t357 t358 t361 t364 t365).bind fun t424 => (if t424 = true then (some ((t365.length : Int) == 6)) else (some false))) = some r := by rw [if_neg (show ¬ (false = true) by decide)] at H; exact H
                  clear H
                  have H := H1
                  clear H1
                  replace H := Option.bind_eq_some_iff.mp H
                  obtain ⟨t424, A820, H⟩ := H
                  replace H : (if t424 = true then (some ((t365.length : Int) == 6)) else (some false)) = some r := H
                  have A82 := qM A820
                  clear A820
                  by_cases c83 : t424 = true
                  · subst c83
                    have H1 : (some ((t365.length : Int) == 6)) = some r := by rw [if_pos rfl] at H; exact H
                    clear H
                    have H := H1
                    clear H1
                    obtain rfl := Option.some.inj H
                    have hnb84 := NB382_369.out
                    have hnc84 := NB369_382.out
                    have hnb85 := NB382_395.out
                    have hnc85 := NB395_382.out
                    have hcz86_0 : wc.cell? ⟨gb382, 0, none⟩ = some (.int .i64 t370) := (zC BK382.out 0).trans rfl
                    have hcz86_1 : wc.cell? ⟨gb382, 1, none⟩ = some (.slice Ao17 t371.length co17) := (zC BK382.out 1).trans rfl
                    have hcz86_2 : wc.cell? ⟨gb382, 2, none⟩ = some (.slice Ao18 t374.length co18) := (zC BK382.out 2).trans rfl
                    have hcz86_3 : wc.cell? ⟨gb382, 3, none⟩ = some (.int .i64 t377) := (zC BK382.out 3).trans rfl
                    have hcz86_4 : wc.cell? ⟨gb382, 4, none⟩ = some (.slice Ao19 t378.length co19) := (zC BK382.out 4).trans rfl
                    have hfz86_0 := zF BK382.out 0
                    have hfz86_1 := zF BK382.out 1
                    have hfz86_2 := zF BK382.out 2
                    have hfz86_3 := zF BK382.out 3
                    have hfz86_4 := zF BK382.out 4
                    have hnb87 := NB369_395.out
                    have hnc87 := NB395_369.out
                    have hcz88_0 : wc.cell? ⟨gb369, 0, none⟩ = some (.int .i64 t357) := (zC BK369.out 0).trans rfl
                    have hcz88_1 : wc.cell? ⟨gb369, 1, none⟩ = some (.slice Ao10 t358.length co10) := (zC BK369.out 1).trans rfl
                    have hcz88_2 : wc.cell? ⟨gb369, 2, none⟩ = some (.slice Ao11 t361.length co11) := (zC BK369.out 2).trans rfl
                    have hcz88_3 : wc.cell? ⟨gb369, 3, none⟩ = some (.int .i64 t364) := (zC BK369.out 3).trans rfl
                    have hcz88_4 : wc.cell? ⟨gb369, 4, none⟩ = some (.slice Ao12 t365.length co12) := (zC BK369.out 4).trans rfl
                    have hfz88_0 := zF BK369.out 0
                    have hfz88_1 := zF BK369.out 1
                    have hfz88_2 := zF BK369.out 2
                    have hfz88_3 := zF BK369.out 3
                    have hfz88_4 := zF BK369.out 4
                    go_wp2_with (first | ((with_reducible refine gate_callee (f := 41) rfl ?_); refine goesL_ (some 59) rfl rfl Try.func41 (by kernel_rfl) rfl #[.agg #[.int .i64 t370, .slice Ao17 t371.length co17, .slice Ao18 t374.length co18, .int .i64 t377, .slice Ao19 t378.length co19], .agg #[.int .i64 t357, .slice Ao10 t358.length co10, .slice Ao11 t361.length co11, .int .i64 t364, .slice Ao12 t365.length co12]] rfl (by (try simp only [List.map_toArray, List.map_cons, List.map_nil]); first | done | rfl | (simp only [List.length_drop, List.length_take]; rfl)) ?_; (with_reducible refine (laws_caCell.calls kj37 t370 _ _ t371 _ _ t374 t377 _ _ t378 t357 _ _ t358 _ _ t361 t364 _ _ t365 true _ ?side1 ?side2 ?side3 ?side4 ?side5 ?side6 ?side7 ?side8 ?side9 ?side10 ?side11 ?side12 A82.out).mono ?_); (case side1 => repeat (first | exact (qR HO_383001.out).2.2 | (with_reducible refine Kd.C_alloc ?_ _) | (with_reducible refine Kd.C_drewN ?_ _) | (with_reducible refine Kd.C_drew ?_))); (case side2 => exact (qR HO_383001.out).2.1); (case side3 => repeat (first | exact (qR HO_383002.out).2.2 | (with_reducible refine Kd.C_alloc ?_ _) | (with_reducible refine Kd.C_drewN ?_ _) | (with_reducible refine Kd.C_drew ?_))); (case side4 => exact (qR HO_383002.out).2.1); (case side5 => repeat (first | exact (qR HO_383004.out).2.2 | (with_reducible refine Kd.C_alloc ?_ _) | (with_reducible refine Kd.C_drewN ?_ _) | (with_reducible refine Kd.C_drew ?_))); (case side6 => exact (qR HO_383004.out).2.1); (case side7 => repeat (first | exact (qR HO_370001.out).2.2 | (with_reducible refine Kd.C_alloc ?_ _) | (with_reducible refine Kd.C_drewN ?_ _) | (with_reducible refine Kd.C_drew ?_))); (case side8 => exact (qR HO_370001.out).2.1); (case side9 => repeat (first | exact (qR HO_370002.out).2.2 | (with_reducible refine Kd.C_alloc ?_ _) | (with_reducible refine Kd.C_drewN ?_ _) | (with_reducible refine Kd.C_drew ?_))); (case side10 => exact (qR HO_370002.out).2.1); (case side11 => repeat (first | exact (qR HO_370004.out).2.2 | (with_reducible refine Kd.C_alloc ?_ _) | (with_reducible refine Kd.C_drewN ?_ _) | (with_reducible refine Kd.C_drew ?_))); (case side12 => exact (qR HO_370004.out).2.1); rintro e w89 ⟨rfl, hb⟩; refine ⟨_, rfl, ?_⟩; have n0_ := qM (Kd.R_below (by (with_reducible repeat (first | apply qA | apply qN | apply qD)); exact HO_370001.out) hb); have n1_ := qM (Kd.R_below (by (with_reducible repeat (first | apply qA | apply qN | apply qD)); exact HO_370002.out) hb); have n2_ := qM (Kd.R_below (by (with_reducible repeat (first | apply qA | apply qN | apply qD)); exact HO_370004.out) hb); have n3_ := qM (Kd.R_below (by (with_reducible repeat (first | apply qA | apply qN | apply qD)); exact HO_383001.out) hb); have n4_ := qM (Kd.R_below (by (with_reducible repeat (first | apply qA | apply qN | apply qD)); exact HO_383002.out) hb); have n5_ := qM (Kd.R_below (by (with_reducible repeat (first | apply qA | apply qN | apply qD)); exact HO_383004.out) hb); have n6_ := qM (Kd.R_below (by (with_reducible repeat (first | apply qA | apply qN | apply qD)); exact HO_396001.out) hb); have n7_ := qM (Kd.R_below (by (with_reducible repeat (first | apply qA | apply qN | apply qD)); exact HO_396002.out) hb); have n8_ := qM (Kd.R_below (by (with_reducible repeat (first | apply qA | apply qN | apply qD)); exact HO_396004.out) hb); have n9_ := qM (blk_below (g := gb369) (o := .cells #[.int .i64 t357, .slice Ao10 t358.length co10, .slice Ao11 t361.length co11, .int .i64 t364, .slice Ao12 t365.length co12] 48 (0, 0)) (by (with_reducible repeat (first | refine zN ?_ _ | refine zD ?_ | refine zA ?_ _)); exact BK369.out) hb); have n10_ := qM (blk_below (g := gb382) (o := .cells #[.int .i64 t370, .slice Ao17 t371.length co17, .slice Ao18 t374.length co18, .int .i64 t377, .slice Ao19 t378.length co19] 48 (0, 0)) (by (with_reducible repeat (first | refine zN ?_ _ | refine zD ?_ | refine zA ?_ _)); exact BK382.out) hb); have n11_ := qM (blk_below (g := gb395) (o := .cells #[.int .i64 t383, .slice Ao26 t384.length co26, .slice Ao27 t387.length co27, .int .i64 t390, .slice Ao28 t391.length co28] 48 (0, 0)) (by (with_reducible repeat (first | refine zN ?_ _ | refine zD ?_ | refine zA ?_ _)); exact BK395.out) hb); have n12_ := qM (below_step (by repeat (first | (with_reducible first | exact HB.out | apply yA | apply yN | apply yD | refine yS ?_ GE369.out | refine yS ?_ GE382.out | refine yS ?_ GE395.out) | exact HB.out)) hb); clear HO_370001; clear HO_370002; clear HO_370004; clear HO_383001; clear HO_383002; clear HO_383004; clear HO_396001; clear HO_396002; clear HO_396004; clear BK369; clear BK382; clear BK395; clear HB; have HO_370001 := n0_; have HO_370002 := n1_; have HO_370004 := n2_; have HO_383001 := n3_; have HO_383002 := n4_; have HO_383004 := n5_; have HO_396001 := n6_; have HO_396002 := n7_; have HO_396004 := n8_; have BK369 := n9_; have BK382 := n10_; have BK395 := n11_; have HB := n12_; clear n0_ n1_ n2_ n3_ n4_ n5_ n6_ n7_ n8_ n9_ n10_ n11_ n12_; (try clear hb); (try clear hb2); (try clear hk); (try clear hi); have hcz90_0 : w89.cell? ⟨gb369, 0, none⟩ = some (.int .i64 t357) := (zC BK369.out 0).trans rfl; have hcz90_1 : w89.cell? ⟨gb369, 1, none⟩ = some (.slice Ao10 t358.length co10) := (zC BK369.out 1).trans rfl; have hcz90_2 : w89.cell? ⟨gb369, 2, none⟩ = some (.slice Ao11 t361.length co11) := (zC BK369.out 2).trans rfl; have hcz90_3 : w89.cell? ⟨gb369, 3, none⟩ = some (.int .i64 t364) := (zC BK369.out 3).trans rfl; have hcz90_4 : w89.cell? ⟨gb369, 4, none⟩ = some (.slice Ao12 t365.length co12) := (zC BK369.out 4).trans rfl; have hfz90_0 := zF BK369.out 0; have hfz90_1 := zF BK369.out 1; have hfz90_2 := zF BK369.out 2; have hfz90_3 := zF BK369.out 3; have hfz90_4 := zF BK369.out 4))
                    go_ret
                    exact ⟨by first | rfl | (simp [errW_none, errW_some] <;> rfl) | (simp [*, errW_none, errW_some] <;> rfl), by repeat (first | (with_reducible first | exact HB.out | apply yA | apply yN | apply yD | refine yS ?_ GE369.out | refine yS ?_ GE382.out | refine yS ?_ GE395.out) | exact HB.out)⟩
                  · replace c83 := Bool.eq_false_iff.mpr c83
                    subst c83
                    have H1 : (some false) = some r := by rw [if_neg (show ¬ (false = true) by decide)] at H; exact H
                    clear H
                    have H := H1
                    clear H1
                    exact absurd ((Option.some.inj H).trans hr_) (by decide)

/-- THE ONE PURE STATEMENT of laws_FnCelInput. -/
def laws_FnCelInput.Pure : Prop := ∀ (l0 : List Int), l0.length ≤ maxLen → (∀ x ∈ l0, (Lit.int .u8 x).wf = true) → ∃ k, laws_FnCelInput.f k l0 = some true

end Go.Proofs.Ytcnipdbommmkmaa.PFnCelInputB
