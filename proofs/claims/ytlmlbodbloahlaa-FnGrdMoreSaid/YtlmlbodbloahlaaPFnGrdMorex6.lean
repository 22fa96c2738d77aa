/- Functions that a law reaches, each with the walk that shows what its call answers; laid by a program of this session. -/
import Derived.Test.YtlmlbodbloahlaaPFnGrdMorex0
import Derived.Test.YtlmlbodbloahlaaPFnGrdMorex1
import Derived.Test.YtlmlbodbloahlaaPFnGrdMorex2
import Derived.Test.YtlmlbodbloahlaaPFnGrdMorex5
namespace Go.Proofs.Ytlmlbodbloahlaa.PFnGrdMore
open Go.RowKit Go.Proofs.YtlmlbodbloahlaaW.PrintWords Go.Proofs.YtlmlbodbloahlaaW.PrintLast Go.Proofs.YtlmlbodbloahlaaW.PrintMore
attribute [local go_sem] max2_int min2_int max_two min_two max_three min_three max_four min_four   -- for this text's walks alone
set_option linter.unusedVariables false
set_option linter.unusedSimpArgs false

open Go.Proofs.YtlmlbodbloahlaaAl
/-! ### laws_FnGrdMore: function 9 -/
mutual
def laws_FnGrdMore.j0 : Nat → List Int → List Int → Bool → Option (Bool)
 | 0, _, _, _ => none
 | k + 1, x0, x1, x22 => if x22 = true then (some true) else ((spec_DrawGrdDo.f k x0).bind fun bt344 => ((spec_DrawGrdRuleOk.f k x1).bind fun bt350 => ((impl_GrdDo.f bt344.1 bt344.2).bind fun bt358 => ((spec_GrdDo.f k bt344.1 bt344.2).bind fun bt362 => (if (bt358.2 != bt362.2) = true then (laws_FnGrdMore.j1 k bt344.1 bt344.2 bt358.1 bt358.2 true bt350.1 bt350.2.1 bt350.2.2.1 bt350.2.2.2.1 bt350.2.2.2.2.1 bt350.2.2.2.2.2.1 bt350.2.2.2.2.2.2) else ((laws_caBytes.f bt358.1 bt362.1).bind fun t366 => (if t366 = true then ((impl_GrdRuleOk.f bt350.1 bt350.2.1 bt350.2.2.1 bt350.2.2.2.1 bt350.2.2.2.2.1 bt350.2.2.2.2.2.1 bt350.2.2.2.2.2.2).bind fun t367 => ((spec_GrdRuleOk.f bt350.1 bt350.2.1 bt350.2.2.1 bt350.2.2.2.1 bt350.2.2.2.2.1 bt350.2.2.2.2.2.1 bt350.2.2.2.2.2.2).bind fun t368 => (laws_FnGrdMore.j1 k bt344.1 bt344.2 bt358.1 bt358.2 (t367 != t368) bt350.1 bt350.2.1 bt350.2.2.1 bt350.2.2.2.1 bt350.2.2.2.2.1 bt350.2.2.2.2.2.1 bt350.2.2.2.2.2.2))) else (laws_FnGrdMore.j1 k bt344.1 bt344.2 bt358.1 bt358.2 true bt350.1 bt350.2.1 bt350.2.2.1 bt350.2.2.2.1 bt350.2.2.2.2.1 bt350.2.2.2.2.2.1 bt350.2.2.2.2.2.2))))))))
def laws_FnGrdMore.j1 : Nat → List (S46) → List Int → List Int → Bool → Bool → Int → Int → Int → Int → Int → Int → Int → Option (Bool)
 | 0, _, _, _, _, _, _, _, _, _, _, _, _ => none
 | k + 1, x5, x6, x8, x9, x57, x358000, x358001, x358002, x358003, x358004, x358005, x358006 => if x57 = true then (some false) else ((some (([] : List (S46)) : List (S46))).bind fun y369 => (if y369.length + x5.length < 2513169434916 then ((some (y369 ++ x5 : List (S46))).bind fun y372 => ((some (([(⟨x358000, x358001, x358002, x358003, x358004, x358005, x358006⟩ : S46)] : List (S46)) : List (S46))).bind fun y375 => (if y372.length + y375.length < 2513169434916 then ((some (y372 ++ y375 : List (S46))).bind fun y378 => ((impl_GrdDo.f y378 x6).bind fun bt381 => ((spec_GrdOk.f k y378).bind fun t385 => (if t385 = true then (if x9 = true then (if bt381.2 = true then ((laws_caBytes.f bt381.1 x8).bind fun t386 => (some t386)) else (some false)) else (some true)) else (if bt381.2 = true then (some false) else ((impl_GrdRuleOk.f 0 0 0 0 0 0 0).bind fun t387 => (some t387))))))) else (none)))) else (none)))
end
def laws_FnGrdMore.f (k : Nat) (l0 : List Int) (l1 : List Int) : Option (Bool) := if (l0.length : Int) > 1048576 then (laws_FnGrdMore.j0 k l0 l1 true) else (laws_FnGrdMore.j0 k l0 l1 (decide ((l1.length : Int) > 1048576)))
theorem laws_FnGrdMore.mono_l : ∀ k, (∀ y0 y1 y2, LeO (laws_FnGrdMore.j0 k y0 y1 y2) (laws_FnGrdMore.j0 (k + 1) y0 y1 y2)) ∧ (∀ y0 y1 y2 y3 y4 y5 y6 y7 y8 y9 y10 y11, LeO (laws_FnGrdMore.j1 k y0 y1 y2 y3 y4 y5 y6 y7 y8 y9 y10 y11) (laws_FnGrdMore.j1 (k + 1) y0 y1 y2 y3 y4 y5 y6 y7 y8 y9 y10 y11))
 | 0 => ⟨fun _ _ _ r h => by simp [laws_FnGrdMore.j0] at h, fun _ _ _ _ _ _ _ _ _ _ _ _ r h => by simp [laws_FnGrdMore.j1] at h⟩
 | k + 1 => by
  obtain ⟨ih0, ih1⟩ := laws_FnGrdMore.mono_l k
  refine ⟨?_, ?_⟩
  ·intro y0 y1 y2
   unfold laws_FnGrdMore.j0
   repeat' first
   | (with_reducible exact ih0 _ _ _)
   | (with_reducible exact ih1 _ _ _ _ _ _ _ _ _ _ _ _)
   | (with_reducible exact spec_DrawGrdDo.mono _ _)
   | (with_reducible exact spec_DrawGrdRuleOk.mono _ _)
   | (with_reducible exact spec_GrdDo.mono _ _ _)
   | (with_reducible exact spec_GrdOk.mono _ _)
   | (with_reducible exact LeO.refl _)
   | (with_reducible exact LeO.none _)
   | (with_reducible refine LeO.ite ?_ ?_)
   | (with_reducible refine LeO.bind ?_ (fun _ => ?_))
   | exact ih0 _ _ _
   | exact ih1 _ _ _ _ _ _ _ _ _ _ _ _
   | exact spec_DrawGrdDo.mono _ _
   | exact spec_DrawGrdRuleOk.mono _ _
   | exact spec_GrdDo.mono _ _ _
   | exact spec_GrdOk.mono _ _
   | exact LeO.none _
   | refine LeO.ite ?_ ?_
   | refine LeO.bind ?_ (fun _ => ?_)
  ·intro y0 y1 y2 y3 y4 y5 y6 y7 y8 y9 y10 y11
   unfold laws_FnGrdMore.j1
   repeat' first
   | (with_reducible exact ih0 _ _ _)
   | (with_reducible exact ih1 _ _ _ _ _ _ _ _ _ _ _ _)
   | (with_reducible exact spec_DrawGrdDo.mono _ _)
   | (with_reducible exact spec_DrawGrdRuleOk.mono _ _)
   | (with_reducible exact spec_GrdDo.mono _ _ _)
   | (with_reducible exact spec_GrdOk.mono _ _)
   | (with_reducible exact LeO.refl _)
   | (with_reducible exact LeO.none _)
   | (with_reducible refine LeO.ite ?_ ?_)
   | (with_reducible refine LeO.bind ?_ (fun _ => ?_))
   | exact ih0 _ _ _
   | exact ih1 _ _ _ _ _ _ _ _ _ _ _ _
   | exact spec_DrawGrdDo.mono _ _
   | exact spec_DrawGrdRuleOk.mono _ _
   | exact spec_GrdDo.mono _ _ _
   | exact spec_GrdOk.mono _ _
   | exact LeO.none _
   | refine LeO.ite ?_ ?_
   | refine LeO.bind ?_ (fun _ => ?_)
theorem laws_FnGrdMore.mono : ∀ a0 a1 k, LeO (laws_FnGrdMore.f k a0 a1) (laws_FnGrdMore.f (k + 1) a0 a1) := by
 intro a0 a1 k
 obtain ⟨ih0, ih1⟩ := laws_FnGrdMore.mono_l k
 unfold laws_FnGrdMore.f
 repeat' first
   | (with_reducible exact ih0 _ _ _)
   | (with_reducible exact ih1 _ _ _ _ _ _ _ _ _ _ _ _)
   | (with_reducible exact spec_DrawGrdDo.mono _ _)
   | (with_reducible exact spec_DrawGrdRuleOk.mono _ _)
   | (with_reducible exact spec_GrdDo.mono _ _ _)
   | (with_reducible exact spec_GrdOk.mono _ _)
   | (with_reducible exact LeO.refl _)
   | (with_reducible exact LeO.none _)
   | (with_reducible refine LeO.ite ?_ ?_)
   | (with_reducible refine LeO.bind ?_ (fun _ => ?_))
   | exact ih0 _ _ _
   | exact ih1 _ _ _ _ _ _ _ _ _ _ _ _
   | exact spec_DrawGrdDo.mono _ _
   | exact spec_DrawGrdRuleOk.mono _ _
   | exact spec_GrdDo.mono _ _ _
   | exact spec_GrdOk.mono _ _
   | exact LeO.none _
   | refine LeO.ite ?_ ?_
   | refine LeO.bind ?_ (fun _ => ?_)
def laws_FnGrdMore.T7 : Bool × List (List Nat × List Nat) := (true, [([], []), ([], []), ([0, 1], [0, 1]), ([2], [2]), ([3], [3]), ([3], [3]), ([4, 5, 3, 3], [3, 4, 5]), ([6, 3], [3, 6]), ([3, 7], [3, 7]), ([8, 6], [8]), ([9], [9]), ([10, 9, 9], [9, 10]), ([9], [9]), ([12, 11, 9], [9, 12]), ([11, 13, 9], [9, 11, 13]), ([9, 14], [9, 14])])
def laws_FnGrdMore.B7 : List Nat := [0, 0, 3, 7, 15, 15, 63, 127, 255, 511, 1023, 2047, 1023, 8191, 16383, 32767]
theorem laws_FnGrdMore.tab7 : rtab .any (opsOf Try.f9 7) = laws_FnGrdMore.T7 := by kernel_rfl
theorem laws_FnGrdMore.bits7 : waitsOk laws_FnGrdMore.T7.2 laws_FnGrdMore.B7 = true := by kernel_rfl
set_option maxHeartbeats 8000000 in
set_option maxRecDepth 100000 in
theorem laws_FnGrdMore.calls (k : Nat) (A0 : Option Addr) (c0 : Nat) (l0 : List Int) (A1 : Option Addr) (c1 : Nat) (l1 : List Int) (r : Bool) (w : World) (hr0 : Kd.C (Kd.int .u8) w A0 l0.length l0) (hc0 : l0.length ≤ c0) (hr1 : Kd.C (Kd.int .u8) w A1 l1.length l1) (hc1 : l1.length ≤ c1) (h : laws_FnGrdMore.f k l0 l1 = some r) (hr_ : r = true := by rfl) :
  Calls Try.prog 9 #[.slice A0 l0.length c0, .slice A1 l1.length c1] w fun e w' => e = .returned (.bool r) ∧ Below w.heap.size w w' := by
 have hu46 := Try.underlying46
 have HR0 := qM hr0
 have HC0 := qM hc0
 clear hr0 hc0
 have HR1 := qM hr1
 have HC1 := qM hc1
 clear hr1 hc1
 have HB := qM (Below.refl w.heap.size w)
 have H : (if (l0.length : Int) > 1048576 then (laws_FnGrdMore.j0 k l0 l1 true) else (laws_FnGrdMore.j0 k l0 l1 (decide ((l1.length : Int) > 1048576)))) = some r := h
 clear h
 have HC3 := qM H
 clear H
 go_enter Try.func9, Try.ntmps9
 go_upto_region 1 with (fail)
 go_cut [22] (fun v22 wc => ∃ (kq : Nat) (x22_2 : Bool), v22 = .bool x22_2 ∧ Aside0 (laws_FnGrdMore.j0 kq l0 l1 x22_2 = some r) ∧ Aside0 (kq ≤ k) ∧ Aside0 (Below w.heap.size w wc))
 case first =>
  have H := HC3.out
  clear HC3
  by_cases c4 : (l0.length : Int) > 1048576
  ·rw [if_pos c4] at H
   have c4b0 : decide (1048576 < (l0.length : Int)) = true := decide_eq_true c4
   have c4b1 : decide (1048576 < l0.length) = true := decide_eq_true (by omega)
   clear c4
   (first | rw [c4b0] | (simp only [i64_w, i32_w]; rw [c4b0]) | skip)
   have H' := qM H
   clear H
   go_wp2
   go_meet
   case rel => exact ⟨_, (true), (by first | rfl | (simp; done) | (simp [*]; done)), H', ⟨by first | omega | exact Nat.le_refl _⟩, ⟨by repeat (first | (with_reducible first | exact HB.out | apply yA | apply yN | apply yD) | exact HB.out)⟩⟩
  ·rw [if_neg c4] at H
   have c4b0 : decide (1048576 < (l0.length : Int)) = false := decide_eq_false c4
   have c4b1 : decide (1048576 < l0.length) = false := decide_eq_false (by omega)
   clear c4
   (first | rw [c4b0] | (simp only [i64_w, i32_w]; rw [c4b0]) | skip)
   have H' := qM H
   clear H
   go_wp2
   go_meet
   case rel => exact ⟨_, (decide ((l1.length : Int) > 1048576)), (by first | rfl | (simp; done) | (simp [*]; done)), H', ⟨by first | omega | exact Nat.le_refl _⟩, ⟨by repeat (first | (with_reducible first | exact HB.out | apply yA | apply yN | apply yD) | exact HB.out)⟩⟩
 case rest =>
  clear HC3
  try clear c1
  try clear p2
  try clear c4
  try clear c4b0
  try clear c4b1
  obtain ⟨kq, x22_2, rfl, HA, HJ2, HB⟩ := hcut
  cases kq with
  | zero => exact absurd HA.out (by simp [laws_FnGrdMore.j0])
  | succ kj2 =>
   have H := HA.out
   clear HA
   simp only [laws_FnGrdMore.j0] at H
   by_cases c5 : x22_2 = true
   ·subst c5
    have H1 : (some true) = some r := by rw [if_pos rfl] at H; exact H
    clear H
    have H := H1
    clear H1
    obtain rfl := Option.some.inj H
    go_wp2
    go_ret
    exact ⟨by first | rfl | (simp [errW_none, errW_some] <;> rfl) | (simp [*, errW_none, errW_some] <;> rfl), by repeat (first | (with_reducible first | exact HB.out | apply yA | apply yN | apply yD) | exact HB.out)⟩
   ·replace c5 := Bool.eq_false_iff.mpr c5
    subst c5
    have H1 : ((spec_DrawGrdDo.f kj2 l0).bind fun bt344 => ((spec_DrawGrdRuleOk.f kj2 l1).bind fun bt350 => ((impl_GrdDo.f bt344.1 bt344.2).bind fun bt358 => ((spec_GrdDo.f kj2 bt344.1 bt344.2).bind fun bt362 => (if (bt358.2 != bt362.2) = true then (laws_FnGrdMore.j1 kj2 bt344.1 bt344.2 bt358.1 bt358.2 true bt350.1 bt350.2.1 bt350.2.2.1 bt350.2.2.2.1 bt350.2.2.2.2.1 bt350.2.2.2.2.2.1 bt350.2.2.2.2.2.2) else ((laws_caBytes.f bt358.1 bt362.1).bind fun t366 => (if t366 = true then ((impl_GrdRuleOk.f bt350.1 bt350.2.1 bt350.2.2.1 bt350.2.2.2.1 bt350.2.2.2.2.1 bt350.2.2.2.2.2.1 bt350.2.2.2.2.2.2).bind fun t367 => ((spec_GrdRuleOk.f bt350.1 bt350.2.1 bt350.2.2.1 bt350.2.2.2.1 bt350.2.2.2.2.1 bt350.2.2.2.2.2.1 bt350.2.2.2.2.2.2).bind fun t368 => (laws_FnGrdMore.j1 kj2 bt344.1 bt344.2 bt358.1 bt358.2 (t367 != t368) bt350.1 bt350.2.1 bt350.2.2.1 bt350.2.2.2.1 bt350.2.2.2.2.1 bt350.2.2.2.2.2.1 bt350.2.2.2.2.2.2))) else (laws_FnGrdMore.j1 kj2 bt344.1 bt344.2 bt358.1 bt358.2 true bt350.1 bt350.2.1 bt350.2.2.1 bt350.2.2.2.1 bt350.2.2.2.2.1 bt350.2.2.2.2.2.1 bt350.2.2.2.2.2.2)))))))) = some r := by rw [if_neg (show ¬ (false = true) by decide)] at H; exact H
    clear H
    have H := H1
    clear H1
    replace H := Option.bind_eq_some_iff.mp H
    obtain ⟨⟨t344, t345⟩, A60, H⟩ := H
    replace H : ((spec_DrawGrdRuleOk.f kj2 l1).bind fun bt350 => ((impl_GrdDo.f t344 t345).bind fun bt358 => ((spec_GrdDo.f kj2 t344 t345).bind fun bt362 => (if (bt358.2 != bt362.2) = true then (laws_FnGrdMore.j1 kj2 t344 t345 bt358.1 bt358.2 true bt350.1 bt350.2.1 bt350.2.2.1 bt350.2.2.2.1 bt350.2.2.2.2.1 bt350.2.2.2.2.2.1 bt350.2.2.2.2.2.2) else ((laws_caBytes.f bt358.1 bt362.1).bind fun t366 => (if t366 = true then ((impl_GrdRuleOk.f bt350.1 bt350.2.1 bt350.2.2.1 bt350.2.2.2.1 bt350.2.2.2.2.1 bt350.2.2.2.2.2.1 bt350.2.2.2.2.2.2).bind fun t367 => ((spec_GrdRuleOk.f bt350.1 bt350.2.1 bt350.2.2.1 bt350.2.2.2.1 bt350.2.2.2.2.1 bt350.2.2.2.2.2.1 bt350.2.2.2.2.2.2).bind fun t368 => (laws_FnGrdMore.j1 kj2 t344 t345 bt358.1 bt358.2 (t367 != t368) bt350.1 bt350.2.1 bt350.2.2.1 bt350.2.2.2.1 bt350.2.2.2.2.1 bt350.2.2.2.2.2.1 bt350.2.2.2.2.2.2))) else (laws_FnGrdMore.j1 kj2 t344 t345 bt358.1 bt358.2 true bt350.1 bt350.2.1 bt350.2.2.1 bt350.2.2.2.1 bt350.2.2.2.2.1 bt350.2.2.2.2.2.1 bt350.2.2.2.2.2.2))))))) = some r := H
    have A6 := qM A60
    clear A60
    replace H := Option.bind_eq_some_iff.mp H
    obtain ⟨⟨t350, t351, t352, t353, t354, t355, t356⟩, A70, H⟩ := H
    replace H : ((impl_GrdDo.f t344 t345).bind fun bt358 => ((spec_GrdDo.f kj2 t344 t345).bind fun bt362 => (if (bt358.2 != bt362.2) = true then (laws_FnGrdMore.j1 kj2 t344 t345 bt358.1 bt358.2 true t350 t351 t352 t353 t354 t355 t356) else ((laws_caBytes.f bt358.1 bt362.1).bind fun t366 => (if t366 = true then ((impl_GrdRuleOk.f t350 t351 t352 t353 t354 t355 t356).bind fun t367 => ((spec_GrdRuleOk.f t350 t351 t352 t353 t354 t355 t356).bind fun t368 => (laws_FnGrdMore.j1 kj2 t344 t345 bt358.1 bt358.2 (t367 != t368) t350 t351 t352 t353 t354 t355 t356))) else (laws_FnGrdMore.j1 kj2 t344 t345 bt358.1 bt358.2 true t350 t351 t352 t353 t354 t355 t356)))))) = some r := H
    have A7 := qM A70
    clear A70
    replace H := Option.bind_eq_some_iff.mp H
    obtain ⟨⟨t358, t359⟩, A80, H⟩ := H
    replace H : ((spec_GrdDo.f kj2 t344 t345).bind fun bt362 => (if (t359 != bt362.2) = true then (laws_FnGrdMore.j1 kj2 t344 t345 t358 t359 true t350 t351 t352 t353 t354 t355 t356) else ((laws_caBytes.f t358 bt362.1).bind fun t366 => (if t366 = true then ((impl_GrdRuleOk.f t350 t351 t352 t353 t354 t355 t356).bind fun t367 => ((spec_GrdRuleOk.f t350 t351 t352 t353 t354 t355 t356).bind fun t368 => (laws_FnGrdMore.j1 kj2 t344 t345 t358 t359 (t367 != t368) t350 t351 t352 t353 t354 t355 t356))) else (laws_FnGrdMore.j1 kj2 t344 t345 t358 t359 true t350 t351 t352 t353 t354 t355 t356))))) = some r := H
    have A8 := qM A80
    clear A80
    replace H := Option.bind_eq_some_iff.mp H
    obtain ⟨⟨t362, t363⟩, A90, H⟩ := H
    replace H : (if (t359 != t363) = true then (laws_FnGrdMore.j1 kj2 t344 t345 t358 t359 true t350 t351 t352 t353 t354 t355 t356) else ((laws_caBytes.f t358 t362).bind fun t366 => (if t366 = true then ((impl_GrdRuleOk.f t350 t351 t352 t353 t354 t355 t356).bind fun t367 => ((spec_GrdRuleOk.f t350 t351 t352 t353 t354 t355 t356).bind fun t368 => (laws_FnGrdMore.j1 kj2 t344 t345 t358 t359 (t367 != t368) t350 t351 t352 t353 t354 t355 t356))) else (laws_FnGrdMore.j1 kj2 t344 t345 t358 t359 true t350 t351 t352 t353 t354 t355 t356)))) = some r := H
    have A9 := qM A90
    clear A90
    have HC10 := qM H
    clear H
    go_upto_region 7 with (first | ((with_reducible refine gate_callee (f := 27) rfl ?_); refine goesL_ (some 25) rfl rfl Try.func27 (by kernel_rfl) rfl #[.slice A0 l0.length c0] rfl (by (try simp only [List.map_toArray, List.map_cons, List.map_nil]); first | done | rfl | (simp only [List.length_drop, List.length_take]; rfl)) ?_; (with_reducible refine (spec_DrawGrdDo.calls kj2 _ _ l0 t344 t345 _ ?side1 ?side2 A6.out).mono ?_); (case side1 => repeat (first | exact (Kd.C_below HR0.out HB.out) | (with_reducible refine Kd.C_alloc ?_ _) | (with_reducible refine Kd.C_drewN ?_ _) | (with_reducible refine Kd.C_drew ?_))); (case side2 => exact HC0.out); rintro e w11 ⟨v346, v348, rfl, ho0, ho1, hb⟩; refine ⟨_, rfl, ?_⟩; have n0_ := qM (Kd.R_lower ho0 (below_size (by repeat (first | (with_reducible first | exact HB.out | apply yA | apply yN | apply yD) | exact HB.out)))); have n1_ := qM (Kd.R_lower ho1 (below_size (by repeat (first | (with_reducible first | exact HB.out | apply yA | apply yN | apply yD) | exact HB.out)))); have n2_ := qM (below_step (by repeat (first | (with_reducible first | exact HB.out | apply yA | apply yN | apply yD) | exact HB.out)) hb); clear HB; have HO347 := n0_; have HO349 := n1_; have HB := n2_; clear n0_ n1_ n2_; (try clear hb); (try clear hb2); (try clear hk); (try clear hi); (try clear ho0); (try clear ho1)) | ((with_reducible refine gate_callee (f := 32) rfl ?_); refine goesL_ (some 29) rfl rfl Try.func32 (by kernel_rfl) rfl #[.slice A1 l1.length c1] rfl (by (try simp only [List.map_toArray, List.map_cons, List.map_nil]); first | done | rfl | (simp only [List.length_drop, List.length_take]; rfl)) ?_; (with_reducible refine (spec_DrawGrdRuleOk.calls kj2 _ _ l1 t350 t351 t352 t353 t354 t355 t356 _ ?side1 ?side2 A7.out).mono ?_); (case side1 => repeat (first | exact (Kd.C_below HR1.out HB.out) | (with_reducible refine Kd.C_alloc ?_ _) | (with_reducible refine Kd.C_drewN ?_ _) | (with_reducible refine Kd.C_drew ?_))); (case side2 => exact HC1.out); rintro e w12 ⟨rfl, hb⟩; refine ⟨_, rfl, ?_⟩; have n0_ := qM (Kd.R_below (by (with_reducible repeat (first | apply qA | apply qN | apply qD)); exact HO347.out) hb); have n1_ := qM (Kd.R_below (by (with_reducible repeat (first | apply qA | apply qN | apply qD)); exact HO349.out) hb); have n2_ := qM (below_step (by repeat (first | (with_reducible first | exact HB.out | apply yA | apply yN | apply yD) | exact HB.out)) hb); clear HO347; clear HO349; clear HB; have HO347 := n0_; have HO349 := n1_; have HB := n2_; clear n0_ n1_ n2_; (try clear hb); (try clear hb2); (try clear hk); (try clear hi)) | ((with_reducible refine gate_dst (N := 7) rfl ?_); (try (refine gate_guard (by rfl) ?_; dsimp only)); refine box_event ?hg (N := 7) ?hd (cs := #[.int .i64 0, .int .i64 0, .int .i64 0, .int .i64 0, .int .i64 0, .int .i64 0, .int .i64 0]) (t := 46) ?hr ?_; (case hd => rfl); (case hg => rfl); (case hr => first | (go_simp; done) | (go_simp; rfl)); intro gb357 hg w13 hbox hb; have n0_ := qM (Kd.R_below (Kd.R_elderB (by (with_reducible repeat (first | apply qA | apply qN | apply qD)); exact HO347.out) gb357 (Nat.le_of_eq hg.symm)) hb); have n1_ := qM (Kd.R_below (by (with_reducible repeat (first | apply qA | apply qN | apply qD)); exact HO349.out) hb); have n2_ := qM (below_step (by repeat (first | (with_reducible first | exact HB.out | apply yA | apply yN | apply yD) | exact HB.out)) hb); have n3_ := qM (hbox); have n4_ := qM ((by rw [hg]; exact (below_size (by repeat (first | (with_reducible first | exact HB.out | apply yA | apply yN | apply yD) | exact HB.out))) : w.heap.size ≤ gb357)); have n5_ := qM ((by rw [hg]; exact (below_size (by repeat (first | (with_reducible first | exact HB.out | apply yA | apply yN | apply yD) | exact HB.out))) : w.heap.size ≤ gb357)); clear HO347; clear HO349; clear HB; have HO347 := n0_; have HO349 := n1_; have HB := n2_; have BK357 := n3_; have GW357 := n4_; have GE357 := n5_; clear n0_ n1_ n2_ n3_ n4_ n5_; clear hb hbox hg; have hcz14_0 : w13.cell? ⟨gb357, 0, none⟩ = some (.int .i64 0) := (zC BK357.out 0).trans rfl; have hcz14_1 : w13.cell? ⟨gb357, 1, none⟩ = some (.int .i64 0) := (zC BK357.out 1).trans rfl; have hcz14_2 : w13.cell? ⟨gb357, 2, none⟩ = some (.int .i64 0) := (zC BK357.out 2).trans rfl; have hcz14_3 : w13.cell? ⟨gb357, 3, none⟩ = some (.int .i64 0) := (zC BK357.out 3).trans rfl; have hcz14_4 : w13.cell? ⟨gb357, 4, none⟩ = some (.int .i64 0) := (zC BK357.out 4).trans rfl; have hcz14_5 : w13.cell? ⟨gb357, 5, none⟩ = some (.int .i64 0) := (zC BK357.out 5).trans rfl; have hcz14_6 : w13.cell? ⟨gb357, 6, none⟩ = some (.int .i64 0) := (zC BK357.out 6).trans rfl; have hfz14_0 := zF BK357.out 0; have hfz14_1 := zF BK357.out 1; have hfz14_2 := zF BK357.out 2; have hfz14_3 := zF BK357.out 3; have hfz14_4 := zF BK357.out 4; have hfz14_5 := zF BK357.out 5; have hfz14_6 := zF BK357.out 6; obtain ⟨Ao15, co15, eo15⟩ := Kd.R_slice HO347.out; subst eo15; obtain ⟨Ao16, co16, eo16⟩ := Kd.R_slice HO349.out; subst eo16) | ((with_reducible refine gate_callee (f := 24) rfl ?_); refine goesL_ (some 33) rfl rfl Try.func24 (by kernel_rfl) rfl #[.slice Ao15 t344.length co15, .slice Ao16 t345.length co16] rfl (by (try simp only [List.map_toArray, List.map_cons, List.map_nil]); first | done | rfl | (simp only [List.length_drop, List.length_take]; rfl)) ?_; (with_reducible refine (impl_GrdDo.calls _ _ t344 _ _ t345 t358 t359 _ ?side1 ?side2 ?side3 ?side4 A8.out).mono ?_); (case side1 => refine (qR (e := 46) (base := w.heap.size) (ok := fun k_ => (True ∧ k_ ≠ gb357)) (n := t344.length) (c := co15) ?_).2.2; exact (by (with_reducible repeat (first | apply qA | apply qN | apply qD)); exact (Kd.R_mono (qF (p := ⟨gb357, 6, none⟩) (qF (p := ⟨gb357, 5, none⟩) (qF (p := ⟨gb357, 4, none⟩) (qF (p := ⟨gb357, 3, none⟩) (qF (p := ⟨gb357, 2, none⟩) (qF (p := ⟨gb357, 1, none⟩) (qF (p := ⟨gb357, 0, none⟩) (Kd.R_mono HO347.out (fun k_ hk => (⟨hk, hk.2⟩ : _ ∧ k_ ≠ gb357))) (fun _ hk => hk.2) (.int .i64 t350)) (fun _ hk => hk.2) (.int .i64 t351)) (fun _ hk => hk.2) (.int .i64 t352)) (fun _ hk => hk.2) (.int .i64 t353)) (fun _ hk => hk.2) (.int .i64 t354)) (fun _ hk => hk.2) (.int .i64 t355)) (fun _ hk => hk.2) (.int .i64 t356)) (fun _ h_ => h_.1)))); (case side2 => exact (qR HO347.out).2.1); (case side3 => refine (qR (e := 5) (base := w.heap.size) (ok := fun k_ => True) (n := t345.length) (c := co16) ?_).2.2; exact (by (with_reducible repeat (first | apply qA | apply qN | apply qD)); exact (Kd.R_mono (qF (p := ⟨gb357, 6, none⟩) (qF (p := ⟨gb357, 5, none⟩) (qF (p := ⟨gb357, 4, none⟩) (qF (p := ⟨gb357, 3, none⟩) (qF (p := ⟨gb357, 2, none⟩) (qF (p := ⟨gb357, 1, none⟩) (qF (p := ⟨gb357, 0, none⟩) (Kd.R_types HO349.out BK357.out (by decide)) (fun _ hk => hk.2) (.int .i64 t350)) (fun _ hk => hk.2) (.int .i64 t351)) (fun _ hk => hk.2) (.int .i64 t352)) (fun _ hk => hk.2) (.int .i64 t353)) (fun _ hk => hk.2) (.int .i64 t354)) (fun _ hk => hk.2) (.int .i64 t355)) (fun _ hk => hk.2) (.int .i64 t356)) (fun _ h_ => h_.1)))); (case side4 => exact (qR HO349.out).2.1); rintro e w17 ⟨v360, rfl, ho0, hb⟩; refine ⟨_, rfl, ?_⟩; have n0_ := qM (Kd.R_below (by (with_reducible repeat (first | apply qA | apply qN | apply qD)); exact (Kd.R_mono (qF (p := ⟨gb357, 6, none⟩) (qF (p := ⟨gb357, 5, none⟩) (qF (p := ⟨gb357, 4, none⟩) (qF (p := ⟨gb357, 3, none⟩) (qF (p := ⟨gb357, 2, none⟩) (qF (p := ⟨gb357, 1, none⟩) (qF (p := ⟨gb357, 0, none⟩) (Kd.R_mono HO347.out (fun k_ hk => (⟨hk, hk.2⟩ : _ ∧ k_ ≠ gb357))) (fun _ hk => hk.2) (.int .i64 t350)) (fun _ hk => hk.2) (.int .i64 t351)) (fun _ hk => hk.2) (.int .i64 t352)) (fun _ hk => hk.2) (.int .i64 t353)) (fun _ hk => hk.2) (.int .i64 t354)) (fun _ hk => hk.2) (.int .i64 t355)) (fun _ hk => hk.2) (.int .i64 t356)) (fun _ h_ => h_.1))) hb); have n1_ := qM (Kd.R_elder' (by (with_reducible repeat (first | apply qA | apply qN | apply qD)); exact (Kd.R_mono (qF (p := ⟨gb357, 6, none⟩) (qF (p := ⟨gb357, 5, none⟩) (qF (p := ⟨gb357, 4, none⟩) (qF (p := ⟨gb357, 3, none⟩) (qF (p := ⟨gb357, 2, none⟩) (qF (p := ⟨gb357, 1, none⟩) (qF (p := ⟨gb357, 0, none⟩) (Kd.R_types HO349.out BK357.out (by decide)) (fun _ hk => hk.2) (.int .i64 t350)) (fun _ hk => hk.2) (.int .i64 t351)) (fun _ hk => hk.2) (.int .i64 t352)) (fun _ hk => hk.2) (.int .i64 t353)) (fun _ hk => hk.2) (.int .i64 t354)) (fun _ hk => hk.2) (.int .i64 t355)) (fun _ hk => hk.2) (.int .i64 t356)) (fun _ h_ => h_.1))) (Kd.R_base ho0) hb); have n2_ := qM (Kd.R_lower (Kd.R_new' ho0 (Kd.R_lt (by (with_reducible repeat (first | apply qA | apply qN | apply qD)); exact (Kd.R_mono (qF (p := ⟨gb357, 6, none⟩) (qF (p := ⟨gb357, 5, none⟩) (qF (p := ⟨gb357, 4, none⟩) (qF (p := ⟨gb357, 3, none⟩) (qF (p := ⟨gb357, 2, none⟩) (qF (p := ⟨gb357, 1, none⟩) (qF (p := ⟨gb357, 0, none⟩) (Kd.R_types HO349.out BK357.out (by decide)) (fun _ hk => hk.2) (.int .i64 t350)) (fun _ hk => hk.2) (.int .i64 t351)) (fun _ hk => hk.2) (.int .i64 t352)) (fun _ hk => hk.2) (.int .i64 t353)) (fun _ hk => hk.2) (.int .i64 t354)) (fun _ hk => hk.2) (.int .i64 t355)) (fun _ hk => hk.2) (.int .i64 t356)) (fun _ h_ => h_.1))))) (below_size (by repeat (first | (with_reducible first | exact HB.out | apply yA | apply yN | apply yD | refine yS ?_ GE357.out) | exact HB.out)))); have n3_ := qM (blk_below (g := gb357) (o := .cells #[.int .i64 t350, .int .i64 t351, .int .i64 t352, .int .i64 t353, .int .i64 t354, .int .i64 t355, .int .i64 t356] 46 (0, 0)) (by (with_reducible repeat (first | refine zN ?_ _ | refine zD ?_ | refine zA ?_ _)); refine blk_put (cs := #[.int .i64 t350, .int .i64 t351, .int .i64 t352, .int .i64 t353, .int .i64 t354, .int .i64 t355, .int .i64 0]) ?_ 6 _ rfl; (with_reducible repeat (first | refine zN ?_ _ | refine zD ?_ | refine zA ?_ _)); refine blk_put (cs := #[.int .i64 t350, .int .i64 t351, .int .i64 t352, .int .i64 t353, .int .i64 t354, .int .i64 0, .int .i64 0]) ?_ 5 _ rfl; (with_reducible repeat (first | refine zN ?_ _ | refine zD ?_ | refine zA ?_ _)); refine blk_put (cs := #[.int .i64 t350, .int .i64 t351, .int .i64 t352, .int .i64 t353, .int .i64 0, .int .i64 0, .int .i64 0]) ?_ 4 _ rfl; (with_reducible repeat (first | refine zN ?_ _ | refine zD ?_ | refine zA ?_ _)); refine blk_put (cs := #[.int .i64 t350, .int .i64 t351, .int .i64 t352, .int .i64 0, .int .i64 0, .int .i64 0, .int .i64 0]) ?_ 3 _ rfl; (with_reducible repeat (first | refine zN ?_ _ | refine zD ?_ | refine zA ?_ _)); refine blk_put (cs := #[.int .i64 t350, .int .i64 t351, .int .i64 0, .int .i64 0, .int .i64 0, .int .i64 0, .int .i64 0]) ?_ 2 _ rfl; (with_reducible repeat (first | refine zN ?_ _ | refine zD ?_ | refine zA ?_ _)); refine blk_put (cs := #[.int .i64 t350, .int .i64 0, .int .i64 0, .int .i64 0, .int .i64 0, .int .i64 0, .int .i64 0]) ?_ 1 _ rfl; (with_reducible repeat (first | refine zN ?_ _ | refine zD ?_ | refine zA ?_ _)); refine blk_put (cs := #[.int .i64 0, .int .i64 0, .int .i64 0, .int .i64 0, .int .i64 0, .int .i64 0, .int .i64 0]) ?_ 0 _ rfl; (with_reducible repeat (first | refine zN ?_ _ | refine zD ?_ | refine zA ?_ _)); exact BK357.out) hb); have n4_ := qM (below_step (by repeat (first | (with_reducible first | exact HB.out | apply yA | apply yN | apply yD | refine yS ?_ GE357.out) | exact HB.out)) hb); clear HO347; clear HO349; clear BK357; clear HB; have HO347 := n0_; have HO349 := n1_; have HO361 := n2_; have BK357 := n3_; have HB := n4_; clear n0_ n1_ n2_ n3_ n4_; (try clear hb); (try clear hb2); (try clear hk); (try clear hi); (try clear ho0)) | ((with_reducible refine gate_callee (f := 22) rfl ?_); refine goesL_ (some 39) rfl rfl Try.func22 (by kernel_rfl) rfl #[.slice Ao15 t344.length co15, .slice Ao16 t345.length co16] rfl (by (try simp only [List.map_toArray, List.map_cons, List.map_nil]); first | done | rfl | (simp only [List.length_drop, List.length_take]; rfl)) ?_; (with_reducible refine (spec_GrdDo.calls kj2 _ _ t344 _ _ t345 t362 t363 _ ?side1 ?side2 ?side3 ?side4 A9.out).mono ?_); (case side1 => repeat (first | exact (qR HO347.out).2.2 | (with_reducible refine Kd.C_alloc ?_ _) | (with_reducible refine Kd.C_drewN ?_ _) | (with_reducible refine Kd.C_drew ?_))); (case side2 => exact (qR HO347.out).2.1); (case side3 => repeat (first | exact (qR HO349.out).2.2 | (with_reducible refine Kd.C_alloc ?_ _) | (with_reducible refine Kd.C_drewN ?_ _) | (with_reducible refine Kd.C_drew ?_))); (case side4 => exact (qR HO349.out).2.1); rintro e w18 ⟨v364, rfl, ho0, hb⟩; refine ⟨_, rfl, ?_⟩; have n0_ := qM (Kd.R_below (by (with_reducible repeat (first | apply qA | apply qN | apply qD)); exact HO347.out) hb); have n1_ := qM (Kd.R_elder' (by (with_reducible repeat (first | apply qA | apply qN | apply qD)); exact HO349.out) (Kd.R_base ho0) hb); have n2_ := qM (Kd.R_elder' (by (with_reducible repeat (first | apply qA | apply qN | apply qD)); exact HO361.out) (Kd.R_base ho0) hb); have n3_ := qM (Kd.R_lower (Kd.R_new' (Kd.R_new' ho0 (Kd.R_lt (by (with_reducible repeat (first | apply qA | apply qN | apply qD)); exact HO349.out))) (Kd.R_lt (by (with_reducible repeat (first | apply qA | apply qN | apply qD)); exact HO361.out))) (below_size (by repeat (first | (with_reducible first | exact HB.out | apply yA | apply yN | apply yD | refine yS ?_ GE357.out) | exact HB.out)))); have n4_ := qM (blk_below (g := gb357) (o := .cells #[.int .i64 t350, .int .i64 t351, .int .i64 t352, .int .i64 t353, .int .i64 t354, .int .i64 t355, .int .i64 t356] 46 (0, 0)) (by (with_reducible repeat (first | refine zN ?_ _ | refine zD ?_ | refine zA ?_ _)); exact BK357.out) hb); have n5_ := qM (below_step (by repeat (first | (with_reducible first | exact HB.out | apply yA | apply yN | apply yD | refine yS ?_ GE357.out) | exact HB.out)) hb); clear HO347; clear HO349; clear HO361; clear BK357; clear HB; have HO347 := n0_; have HO349 := n1_; have HO361 := n2_; have HO365 := n3_; have BK357 := n4_; have HB := n5_; clear n0_ n1_ n2_ n3_ n4_ n5_; (try clear hb); (try clear hb2); (try clear hk); (try clear hi); (try clear ho0)))
    (try simp only [Act.put, List.setIfInBounds_toArray, List.set_cons_zero, List.set_cons_succ])
    go_cut [57] (fun v57 wc => ∃ (kq : Nat) (x57_9 : Bool), v57 = .bool x57_9 ∧ Aside0 (laws_FnGrdMore.j1 kq t344 t345 t358 t359 x57_9 t350 t351 t352 t353 t354 t355 t356 = some r) ∧ Aside0 (kq ≤ kj2) ∧ Aside0 (Kd.R k46 46 wc w.heap.size (fun k_ => k_ ≠ gb357) (.slice Ao15 t344.length co15) t344) ∧ Aside0 (Kd.R (Kd.int .u8) 5 wc w.heap.size (fun k_ => some k_ ≠ (v360 : Value).ownBlock) (.slice Ao16 t345.length co16) t345) ∧ Aside0 (Kd.R (Kd.int .u8) 5 wc w.heap.size (fun k_ => some k_ ≠ ((.slice Ao16 t345.length co16) : Value).ownBlock) v360 t358) ∧ Aside0 (wc.heap[gb357]? = some (.cells #[.int .i64 t350, .int .i64 t351, .int .i64 t352, .int .i64 t353, .int .i64 t354, .int .i64 t355, .int .i64 t356] 46 (0, 0))) ∧ Aside0 (Below w.heap.size w wc))
    case first =>
     have H := HC10.out
     clear HC10
     by_cases c19 : (t359 != t363) = true
     ·rw [if_pos c19] at H
      have c19b0 : (t359 != t363) = true := c19
      (try (have c19b1 : decide (t359 = t363) = false := by simpa using c19))
      (try (have c19b2 : (t359 == t363) = false := by simpa using c19))
      (try (have c19b3 : ¬ (t359 = t363) := by simpa using c19))
      clear c19
      (first | rw [c19b0] | (simp only [i64_w, i32_w]; rw [c19b0]) | skip)
      have H' := qM H
      clear H
      try go_wp2
      have n0_ := qM (qD HO347.out)
      have n1_ := qM (qD HO349.out)
      have n2_ := qM (qD HO361.out)
      have n3_ := qM (qD HO365.out)
      have n4_ := qM (zD BK357.out)
      have n5_ := qM (yD HB.out)
      clear HO347
      clear HO349
      clear HO361
      clear HO365
      clear BK357
      clear HB
      have HO347 := n0_
      have HO349 := n1_
      have HO361 := n2_
      have HO365 := n3_
      have BK357 := n4_
      have HB := n5_
      clear n0_ n1_ n2_ n3_ n4_ n5_
      refine start_ (n := 16) (S := fun w' => True) (ds := []) #[false, false, false, false, false, false, false, false, false, false, false, false, false, false, false, false] (by kernel_rfl) rfl rfl trivial (fun hHeld => ?_); refine with_tabW laws_FnGrdMore.tab7 laws_FnGrdMore.bits7 (fun HT_ HW_ => ?_)
      generalize w18.drew = w20 at HO347 HO349 HO361 HO365 BK357 HB hHeld ⊢
      refine pure_ (i := 0) (N := some 42) (v := ?_) (a' := ?_) #[true, false, false, false, false, false, false, false, false, false, false, false, false, false, false, false] rfl rfl (any_of HT_.out (by kernel_rfl)) (fun _ _ _ h => h) (Or.inl ⟨by rfl, ?_⟩) ?_ ?_
      rotate_left
      ·intro w'
       go_simp
       with_reducible rfl
      rotate_left
      ·simp only [Act.put, List.setIfInBounds_toArray, List.set_cons_zero, List.set_cons_succ, i64_w, i32_w]
       rfl
      refine pure_ (i := 1) (N := some 43) (v := ?_) (a' := ?_) #[true, true, false, false, false, false, false, false, false, false, false, false, false, false, false, false] rfl rfl (any_of HT_.out (by kernel_rfl)) (fun _ _ _ h => h) (Or.inl ⟨by rfl, ?_⟩) ?_ ?_
      rotate_left
      ·intro w'
       go_simp
       with_reducible rfl
      rotate_left
      ·simp only [Act.put, List.setIfInBounds_toArray, List.set_cons_zero, List.set_cons_succ, i64_w, i32_w]
       rfl
      refine pure_ (i := 2) (N := some 44) (v := ?_) (a' := ?_) #[true, true, true, false, false, false, false, false, false, false, false, false, false, false, false, false] rfl rfl (any_of HT_.out (by kernel_rfl)) (fun _ _ _ h => h) (Or.inl ⟨by rfl, ?_⟩) ?_ ?_
      rotate_left
      ·intro w'
       go_simp
       with_reducible rfl
      rotate_left
      ·simp only [Act.put, List.setIfInBounds_toArray, List.set_cons_zero, List.set_cons_succ, i64_w, i32_w]
       rfl
      refine pure_ (i := 3) (N := some 45) (v := ?_) (a' := ?_) #[true, true, true, true, false, false, false, false, false, false, false, false, false, false, false, false] rfl rfl (any_of HT_.out (by kernel_rfl)) (fun _ _ _ h => h) (Or.inl ⟨by rfl, ?_⟩) ?_ ?_
      rotate_left
      ·intro w'
       go_simp
       with_reducible rfl
      rotate_left
      ·simp only [Act.put, List.setIfInBounds_toArray, List.set_cons_zero, List.set_cons_succ, i64_w, i32_w]
       rfl
      refine pure_ (i := 4) (N := some 46) (v := undef) (a' := ?_) #[true, true, true, true, true, false, false, false, false, false, false, false, false, false, false, false] rfl rfl (any_of HT_.out (by kernel_rfl)) (fun _ _ _ h => h) (Or.inr ⟨by rfl, rfl⟩) ?_ ?_
      rotate_left
      ·simp only [Act.put, List.setIfInBounds_toArray, List.set_cons_zero, List.set_cons_succ, i64_w, i32_w]
       rfl
      refine pure_ (i := 5) (N := some 47) (v := undef) (a' := ?_) #[true, true, true, true, true, true, false, false, false, false, false, false, false, false, false, false] rfl rfl (any_of HT_.out (by kernel_rfl)) (fun _ _ _ h => h) (Or.inr ⟨by rfl, rfl⟩) ?_ ?_
      rotate_left
      ·simp only [Act.put, List.setIfInBounds_toArray, List.set_cons_zero, List.set_cons_succ, i64_w, i32_w]
       rfl
      refine pure_ (i := 6) (N := some 48) (v := undef) (a' := ?_) #[true, true, true, true, true, true, true, false, false, false, false, false, false, false, false, false] rfl rfl (any_of HT_.out (by kernel_rfl)) (fun _ _ _ h => h) (Or.inr ⟨by rfl, rfl⟩) ?_ ?_
      rotate_left
      ·simp only [Act.put, List.setIfInBounds_toArray, List.set_cons_zero, List.set_cons_succ, i64_w, i32_w]
       rfl
      refine pure_ (i := 7) (N := some 49) (v := undef) (a' := ?_) #[true, true, true, true, true, true, true, true, false, false, false, false, false, false, false, false] rfl rfl (any_of HT_.out (by kernel_rfl)) (fun _ _ _ h => h) (Or.inr ⟨by rfl, rfl⟩) ?_ ?_
      rotate_left
      ·simp only [Act.put, List.setIfInBounds_toArray, List.set_cons_zero, List.set_cons_succ, i64_w, i32_w]
       rfl
      refine pure_ (i := 8) (N := some 50) (v := ?_) (a' := ?_) #[true, true, true, true, true, true, true, true, true, false, false, false, false, false, false, false] rfl rfl (any_of HT_.out (by kernel_rfl)) (fun _ _ _ h => h) (Or.inl ⟨by rfl, ?_⟩) ?_ ?_
      rotate_left
      ·intro w'
       go_simp
       with_reducible rfl
      rotate_left
      ·simp only [Act.put, List.setIfInBounds_toArray, List.set_cons_zero, List.set_cons_succ, i64_w, i32_w]
       rfl
      refine pure_ (i := 9) (N := some 51) (v := ?_) (a' := ?_) #[true, true, true, true, true, true, true, true, true, true, false, false, false, false, false, false] rfl rfl (any_of HT_.out (by kernel_rfl)) (fun _ _ _ h => h) (Or.inl ⟨by rfl, ?_⟩) ?_ ?_
      rotate_left
      ·intro w'
       go_simp
       with_reducible rfl
      rotate_left
      ·simp only [Act.put, List.setIfInBounds_toArray, List.set_cons_zero, List.set_cons_succ, i64_w, i32_w]
       rfl
      refine pure_ (i := 10) (N := some 52) (v := undef) (a' := ?_) #[true, true, true, true, true, true, true, true, true, true, true, false, false, false, false, false] rfl rfl (any_of HT_.out (by kernel_rfl)) (fun _ _ _ h => h) (Or.inr ⟨by rfl, rfl⟩) ?_ ?_
      rotate_left
      ·simp only [Act.put, List.setIfInBounds_toArray, List.set_cons_zero, List.set_cons_succ, i64_w, i32_w]
       rfl
      refine pure_ (i := 11) (N := some 53) (v := undef) (a' := ?_) #[true, true, true, true, true, true, true, true, true, true, true, true, false, false, false, false] rfl rfl (any_of HT_.out (by kernel_rfl)) (fun _ _ _ h => h) (Or.inr ⟨by rfl, rfl⟩) ?_ ?_
      rotate_left
      ·simp only [Act.put, List.setIfInBounds_toArray, List.set_cons_zero, List.set_cons_succ, i64_w, i32_w]
       rfl
      refine pure_ (i := 12) (N := some 54) (v := undef) (a' := ?_) #[true, true, true, true, true, true, true, true, true, true, true, true, true, false, false, false] rfl rfl (any_of HT_.out (by kernel_rfl)) (fun _ _ _ h => h) (Or.inr ⟨by rfl, rfl⟩) ?_ ?_
      rotate_left
      ·simp only [Act.put, List.setIfInBounds_toArray, List.set_cons_zero, List.set_cons_succ, i64_w, i32_w]
       rfl
      refine pure_ (i := 13) (N := some 55) (v := undef) (a' := ?_) #[true, true, true, true, true, true, true, true, true, true, true, true, true, true, false, false] rfl rfl (any_of HT_.out (by kernel_rfl)) (fun _ _ _ h => h) (Or.inr ⟨by rfl, rfl⟩) ?_ ?_
      rotate_left
      ·simp only [Act.put, List.setIfInBounds_toArray, List.set_cons_zero, List.set_cons_succ, i64_w, i32_w]
       rfl
      refine pure_ (i := 14) (N := some 56) (v := undef) (a' := ?_) #[true, true, true, true, true, true, true, true, true, true, true, true, true, true, true, false] rfl rfl (any_of HT_.out (by kernel_rfl)) (fun _ _ _ h => h) (Or.inr ⟨by rfl, rfl⟩) ?_ ?_
      rotate_left
      ·simp only [Act.put, List.setIfInBounds_toArray, List.set_cons_zero, List.set_cons_succ, i64_w, i32_w]
       rfl
      refine pure_ (i := 15) (N := some 57) (v := ?_) (a' := ?_) #[true, true, true, true, true, true, true, true, true, true, true, true, true, true, true, true] rfl rfl (any_of HT_.out (by kernel_rfl)) (fun _ _ _ h => h) (Or.inl ⟨by rfl, ?_⟩) ?_ ?_
      rotate_left
      ·intro w'
       go_simp
       with_reducible rfl
      rotate_left
      ·simp only [Act.put, List.setIfInBounds_toArray, List.set_cons_zero, List.set_cons_succ, i64_w, i32_w]
       rfl
      refine done_ (done_of HT_.out (by kernel_rfl)) ?_
      try go_wp2
      go_meet
      case rel => exact ⟨_, (true), (by first | rfl | (simp; done) | (simp [*]; done)), H', ⟨by have := HJ2.out; first | omega | exact Nat.le_refl _⟩, ⟨by (with_reducible repeat (first | apply qA | apply qN | apply qD)); exact Kd.R_mono HO347.out (fun _ hk => hk.2)⟩, ⟨by (with_reducible repeat (first | apply qA | apply qN | apply qD)); exact Kd.R_mono HO349.out (fun _ hk => hk.1.2)⟩, ⟨by (with_reducible repeat (first | apply qA | apply qN | apply qD)); exact Kd.R_mono HO361.out (fun _ hk => hk.1.2)⟩, ⟨by (with_reducible repeat (first | refine zN ?_ _ | refine zD ?_ | refine zA ?_ _)); exact BK357.out⟩, ⟨by repeat (first | (with_reducible first | exact HB.out | apply yA | apply yN | apply yD | refine yS ?_ GE357.out) | exact HB.out)⟩⟩
     ·rw [if_neg c19] at H
      have c19b0 : (t359 != t363) = false := by simpa using c19
      (try (have c19b1 : decide (t359 = t363) = true := by simpa using c19))
      (try (have c19b2 : (t359 == t363) = true := by simpa using c19))
      clear c19
      (first | rw [c19b0] | (simp only [i64_w, i32_w]; rw [c19b0]) | skip)
      replace H := Option.bind_eq_some_iff.mp H
      obtain ⟨t366, A210, H⟩ := H
      replace H : (if t366 = true then ((impl_GrdRuleOk.f t350 t351 t352 t353 t354 t355 t356).bind fun t367 => ((spec_GrdRuleOk.f t350 t351 t352 t353 t354 t355 t356).bind fun t368 => (laws_FnGrdMore.j1 kj2 t344 t345 t358 t359 (t367 != t368) t350 t351 t352 t353 t354 t355 t356))) else (laws_FnGrdMore.j1 kj2 t344 t345 t358 t359 true t350 t351 t352 t353 t354 t355 t356)) = some r := H
      have A21 := qM A210
      clear A210
      by_cases c22 : t366 = true
      ·subst c22
       have H1 : ((impl_GrdRuleOk.f t350 t351 t352 t353 t354 t355 t356).bind fun t367 => ((spec_GrdRuleOk.f t350 t351 t352 t353 t354 t355 t356).bind fun t368 => (laws_FnGrdMore.j1 kj2 t344 t345 t358 t359 (t367 != t368) t350 t351 t352 t353 t354 t355 t356))) = some r := by rw [if_pos rfl] at H; exact H
       clear H
       have H := H1
       clear H1
       replace H := Option.bind_eq_some_iff.mp H
       obtain ⟨t367, A230, H⟩ := H
       replace H : ((spec_GrdRuleOk.f t350 t351 t352 t353 t354 t355 t356).bind fun t368 => (laws_FnGrdMore.j1 kj2 t344 t345 t358 t359 (t367 != t368) t350 t351 t352 t353 t354 t355 t356)) = some r := H
       have A23 := qM A230
       clear A230
       replace H := Option.bind_eq_some_iff.mp H
       obtain ⟨t368, A240, H⟩ := H
       replace H : (laws_FnGrdMore.j1 kj2 t344 t345 t358 t359 (t367 != t368) t350 t351 t352 t353 t354 t355 t356) = some r := H
       have A24 := qM A240
       clear A240
       have H' := qM H
       clear H
       try go_wp2
       have n0_ := qM (qD HO347.out)
       have n1_ := qM (qD HO349.out)
       have n2_ := qM (qD HO361.out)
       have n3_ := qM (qD HO365.out)
       have n4_ := qM (zD BK357.out)
       have n5_ := qM (yD HB.out)
       clear HO347
       clear HO349
       clear HO361
       clear HO365
       clear BK357
       clear HB
       have HO347 := n0_
       have HO349 := n1_
       have HO361 := n2_
       have HO365 := n3_
       have BK357 := n4_
       have HB := n5_
       clear n0_ n1_ n2_ n3_ n4_ n5_
       obtain ⟨Ao26, co26, eo26⟩ := Kd.R_slice HO361.out
       (first | subst eo26 | (injection eo26 with f1_ f2_ f3_; have f4_ := f1_.symm; have f5_ := f3_.symm; clear f1_ f2_ f3_; subst f4_; subst f5_))
       obtain ⟨Ao27, co27, eo27⟩ := Kd.R_slice HO365.out
       (first | subst eo27 | (injection eo27 with f1_ f2_ f3_; have f4_ := f1_.symm; have f5_ := f3_.symm; clear f1_ f2_ f3_; subst f4_; subst f5_))
       refine start_ (n := 16) (S := fun w' => w'.cell? ⟨gb357, 0, none⟩ = some (.int .i64 t350) ∧ w'.cell? ⟨gb357, 1, none⟩ = some (.int .i64 t351) ∧ w'.cell? ⟨gb357, 2, none⟩ = some (.int .i64 t352) ∧ w'.cell? ⟨gb357, 3, none⟩ = some (.int .i64 t353) ∧ w'.cell? ⟨gb357, 4, none⟩ = some (.int .i64 t354) ∧ w'.cell? ⟨gb357, 5, none⟩ = some (.int .i64 t355) ∧ w'.cell? ⟨gb357, 6, none⟩ = some (.int .i64 t356)) (ds := []) #[false, false, false, false, false, false, false, false, false, false, false, false, false, false, false, false] (by kernel_rfl) rfl rfl ⟨(zC BK357.out 0).trans rfl, (zC BK357.out 1).trans rfl, (zC BK357.out 2).trans rfl, (zC BK357.out 3).trans rfl, (zC BK357.out 4).trans rfl, (zC BK357.out 5).trans rfl, (zC BK357.out 6).trans rfl⟩ (fun hHeld => ?_); refine with_tabW laws_FnGrdMore.tab7 laws_FnGrdMore.bits7 (fun HT_ HW_ => ?_)
       generalize w18.drew = w25 at HO347 HO349 HO361 HO365 BK357 HB hHeld ⊢
       refine pure_ (i := 0) (N := some 42) (v := ?_) (a' := ?_) #[true, false, false, false, false, false, false, false, false, false, false, false, false, false, false, false] rfl rfl (any_of HT_.out (by kernel_rfl)) (fun _ _ _ h => h) (Or.inl ⟨by rfl, ?_⟩) ?_ ?_
       rotate_left
       ·intro w'
        go_simp
        with_reducible rfl
       rotate_left
       ·simp only [Act.put, List.setIfInBounds_toArray, List.set_cons_zero, List.set_cons_succ, i64_w, i32_w]
        rfl
       refine pure_ (i := 1) (N := some 43) (v := ?_) (a' := ?_) #[true, true, false, false, false, false, false, false, false, false, false, false, false, false, false, false] rfl rfl (any_of HT_.out (by kernel_rfl)) (fun _ _ _ h => h) (Or.inl ⟨by rfl, ?_⟩) ?_ ?_
       rotate_left
       ·intro w'
        go_simp
        with_reducible rfl
       rotate_left
       ·simp only [Act.put, List.setIfInBounds_toArray, List.set_cons_zero, List.set_cons_succ, i64_w, i32_w]
        rfl
       refine pure_ (i := 2) (N := some 44) (v := ?_) (a' := ?_) #[true, true, true, false, false, false, false, false, false, false, false, false, false, false, false, false] rfl rfl (any_of HT_.out (by kernel_rfl)) (fun _ _ _ h => h) (Or.inl ⟨by rfl, ?_⟩) ?_ ?_
       rotate_left
       ·intro w'
        go_simp
        with_reducible rfl
       rotate_left
       ·simp only [Act.put, List.setIfInBounds_toArray, List.set_cons_zero, List.set_cons_succ, i64_w, i32_w]
        rfl
       refine pure_ (i := 3) (N := some 45) (v := ?_) (a' := ?_) #[true, true, true, true, false, false, false, false, false, false, false, false, false, false, false, false] rfl rfl (any_of HT_.out (by kernel_rfl)) (fun _ _ _ h => h) (Or.inl ⟨by rfl, ?_⟩) ?_ ?_
       rotate_left
       ·intro w'
        go_simp
        with_reducible rfl
       rotate_left
       ·simp only [Act.put, List.setIfInBounds_toArray, List.set_cons_zero, List.set_cons_succ, i64_w, i32_w]
        rfl
       refine pure_ (i := 4) (N := some 46) (v := ?_) (a' := ?_) #[true, true, true, true, true, false, false, false, false, false, false, false, false, false, false, false] rfl rfl (any_of HT_.out (by kernel_rfl)) (fun _ _ _ h => h) (Or.inl ⟨by rfl, ?_⟩) ?_ ?_
       rotate_left
       ·intro w'
        go_simp
        with_reducible rfl
       rotate_left
       ·simp only [Act.put, List.setIfInBounds_toArray, List.set_cons_zero, List.set_cons_succ, i64_w, i32_w]
        rfl
       refine pure_ (i := 5) (N := some 47) (v := ?_) (a' := ?_) #[true, true, true, true, true, true, false, false, false, false, false, false, false, false, false, false] rfl rfl (any_of HT_.out (by kernel_rfl)) (fun _ _ _ h => h) (Or.inl ⟨by rfl, ?_⟩) ?_ ?_
       rotate_left
       ·intro w'
        go_simp
        with_reducible rfl
       rotate_left
       ·simp only [Act.put, List.setIfInBounds_toArray, List.set_cons_zero, List.set_cons_succ, i64_w, i32_w]
        rfl
       refine one_ (i := 6) (N := some 48) #[true, true, true, true, true, true, true, false, false, false, false, false, false, false, false, false] rfl rfl (one_of HT_.out (by kernel_rfl)) (by decide) (fun K hK => ?_)
       refine goes_ Try.func20 (by kernel_rfl) rfl #[.slice Ao26 t358.length co26, .slice Ao27 t362.length co27] (by rfl) rfl rfl (by (try simp only [List.map_toArray, List.map_cons, List.map_nil]); first | done | rfl | (simp only [List.length_drop, List.length_take]; rfl)) ?_
       with_reducible refine (laws_caBytes.calls _ _ t358 _ _ t362 true _ ?side1 ?side2 ?side3 ?side4 A21.out).mono ?_
       (case side1 => repeat (first | exact (qR HO361.out).2.2 | (with_reducible refine Kd.C_alloc ?_ _) | (with_reducible refine Kd.C_drewN ?_ _) | (with_reducible refine Kd.C_drew ?_)))
       (case side2 => exact (qR HO361.out).2.1)
       (case side3 => repeat (first | exact (qR HO365.out).2.2 | (with_reducible refine Kd.C_alloc ?_ _) | (with_reducible refine Kd.C_drewN ?_ _) | (with_reducible refine Kd.C_drew ?_)))
       (case side4 => exact (qR HO365.out).2.1)
       rintro e w' ⟨rfl, ⟨nd, rfl⟩⟩
       refine ⟨_, rfl, ?_⟩
       refine hK.out _ _ ⟨(zC BK357.out 0).trans rfl, (zC BK357.out 1).trans rfl, (zC BK357.out 2).trans rfl, (zC BK357.out 3).trans rfl, (zC BK357.out 4).trans rfl, (zC BK357.out 5).trans rfl, (zC BK357.out 6).trans rfl⟩ (fun hHeld => ?_)
       clear hK K
       refine norm_ (a' := ?_) ?_ ?_
       rotate_left
       ·show Act.put _ (some 48) _ = _
        simp only [Act.put, List.setIfInBounds_toArray, List.set_cons_zero, List.set_cons_succ, i64_w, i32_w]
        rfl
       refine pure_ (i := 7) (N := some 49) (v := ?_) (a' := ?_) #[true, true, true, true, true, true, true, true, false, false, false, false, false, false, false, false] rfl rfl (any_of HT_.out (by kernel_rfl)) (fun _ _ _ h => h) (Or.inl ⟨by rfl, ?_⟩) ?_ ?_
       rotate_left
       ·intro w'
        go_simp
        with_reducible rfl
       rotate_left
       ·simp only [Act.put, List.setIfInBounds_toArray, List.set_cons_zero, List.set_cons_succ, i64_w, i32_w]
        rfl
       refine pure_ (i := 8) (N := some 50) (v := ?_) (a' := ?_) #[true, true, true, true, true, true, true, true, true, false, false, false, false, false, false, false] rfl rfl (any_of HT_.out (by kernel_rfl)) (fun _ _ _ h => h) (Or.inl ⟨by rfl, ?_⟩) ?_ ?_
       rotate_left
       ·intro w'
        go_simp
        with_reducible rfl
       rotate_left
       ·simp only [Act.put, List.setIfInBounds_toArray, List.set_cons_zero, List.set_cons_succ, i64_w, i32_w]
        rfl
       refine pure_ (i := 9) (N := some 51) (v := ?_) (a' := ?_) #[true, true, true, true, true, true, true, true, true, true, false, false, false, false, false, false] rfl rfl (any_of HT_.out (by kernel_rfl)) (fun _ _ _ h => h) (Or.inl ⟨by rfl, ?_⟩) ?_ ?_
       rotate_left
       ·intro w'
        go_simp
        with_reducible rfl
       rotate_left
       ·simp only [Act.put, List.setIfInBounds_toArray, List.set_cons_zero, List.set_cons_succ, i64_w, i32_w]
        rfl
       refine take_ (i := 10) (N := some 52) (v := ?_) (a' := ?_) #[true, true, true, true, true, true, true, true, true, true, true, false, false, false, false, false] rfl rfl (take_ofW HT_.out HW_.out (by kernel_rfl)) (fun _ _ _ h => h) (Or.inl ⟨by rfl, ?_⟩) hHeld ?_ ?_
       rotate_left
       ·rintro w' ⟨s0, s1, s2, s3, s4, s5, s6⟩
        go_simp
        with_reducible rfl
       rotate_left
       ·simp only [Act.put, List.setIfInBounds_toArray, List.set_cons_zero, List.set_cons_succ, i64_w, i32_w]
        rfl
       refine take_ (i := 12) (N := some 54) (v := ?_) (a' := ?_) #[true, true, true, true, true, true, true, true, true, true, true, false, true, false, false, false] rfl rfl (take_ofW HT_.out HW_.out (by kernel_rfl)) (fun _ _ _ h => h) (Or.inl ⟨by rfl, ?_⟩) hHeld ?_ ?_
       rotate_left
       ·rintro w' ⟨s0, s1, s2, s3, s4, s5, s6⟩
        go_simp
        with_reducible rfl
       rotate_left
       ·simp only [Act.put, List.setIfInBounds_toArray, List.set_cons_zero, List.set_cons_succ, i64_w, i32_w]
        rfl
       refine one_ (i := 11) (N := some 53) #[true, true, true, true, true, true, true, true, true, true, true, true, true, false, false, false] rfl rfl (one_of HT_.out (by kernel_rfl)) (by decide) (fun K hK => ?_)
       refine goes_ Try.func33 (by kernel_rfl) rfl #[.agg #[.int .i64 t350, .int .i64 t351, .int .i64 t352, .int .i64 t353, .int .i64 t354, .int .i64 t355, .int .i64 t356]] (by rfl) rfl rfl (by (try simp only [List.map_toArray, List.map_cons, List.map_nil]); first | done | rfl | (simp only [List.length_drop, List.length_take]; rfl)) ?_
       with_reducible refine (impl_GrdRuleOk.calls t350 t351 t352 t353 t354 t355 t356 t367 _ A23.out).mono ?_
       rintro e w28 ⟨rfl, hb⟩
       refine ⟨_, rfl, ?_⟩
       have n0_ := qM (Kd.R_below (by (with_reducible repeat (first | apply qA | apply qN | apply qD)); exact HO347.out) hb)
       have n1_ := qM (Kd.R_below (by (with_reducible repeat (first | apply qA | apply qN | apply qD)); exact HO349.out) hb)
       have n2_ := qM (Kd.R_below (by (with_reducible repeat (first | apply qA | apply qN | apply qD)); exact HO361.out) hb)
       have n3_ := qM (Kd.R_below (by (with_reducible repeat (first | apply qA | apply qN | apply qD)); exact HO365.out) hb)
       have n4_ := qM (blk_below (g := gb357) (o := .cells #[.int .i64 t350, .int .i64 t351, .int .i64 t352, .int .i64 t353, .int .i64 t354, .int .i64 t355, .int .i64 t356] 46 (0, 0)) (by (with_reducible repeat (first | refine zN ?_ _ | refine zD ?_ | refine zA ?_ _)); exact BK357.out) hb)
       have n5_ := qM (below_step (by repeat (first | (with_reducible first | exact HB.out | apply yA | apply yN | apply yD | refine yS ?_ GE357.out) | exact HB.out)) hb)
       clear HO347
       clear HO349
       clear HO361
       clear HO365
       clear BK357
       clear HB
       have HO347 := n0_
       have HO349 := n1_
       have HO361 := n2_
       have HO365 := n3_
       have BK357 := n4_
       have HB := n5_
       clear n0_ n1_ n2_ n3_ n4_ n5_
       (try clear hb)
       (try clear hb2)
       (try clear hk)
       (try clear hi)
       refine hK.out _ _ ⟨(zC BK357.out 0).trans rfl, (zC BK357.out 1).trans rfl, (zC BK357.out 2).trans rfl, (zC BK357.out 3).trans rfl, (zC BK357.out 4).trans rfl, (zC BK357.out 5).trans rfl, (zC BK357.out 6).trans rfl⟩ (fun hHeld => ?_)
       clear hK K
       refine norm_ (a' := ?_) ?_ ?_
       rotate_left
       ·show Act.put _ (some 53) _ = _
        simp only [Act.put, List.setIfInBounds_toArray, List.set_cons_zero, List.set_cons_succ, i64_w, i32_w]
        rfl
       refine one_ (i := 13) (N := some 55) #[true, true, true, true, true, true, true, true, true, true, true, true, true, true, false, false] rfl rfl (one_of HT_.out (by kernel_rfl)) (by decide) (fun K hK => ?_)
       refine goes_ Try.func34 (by kernel_rfl) rfl #[.agg #[.int .i64 t350, .int .i64 t351, .int .i64 t352, .int .i64 t353, .int .i64 t354, .int .i64 t355, .int .i64 t356]] (by rfl) rfl rfl (by (try simp only [List.map_toArray, List.map_cons, List.map_nil]); first | done | rfl | (simp only [List.length_drop, List.length_take]; rfl)) ?_
       with_reducible refine (spec_GrdRuleOk.calls t350 t351 t352 t353 t354 t355 t356 t368 _ A24.out).mono ?_
       rintro e w29 ⟨rfl, hb⟩
       refine ⟨_, rfl, ?_⟩
       have n0_ := qM (Kd.R_below (by (with_reducible repeat (first | apply qA | apply qN | apply qD)); exact HO347.out) hb)
       have n1_ := qM (Kd.R_below (by (with_reducible repeat (first | apply qA | apply qN | apply qD)); exact HO349.out) hb)
       have n2_ := qM (Kd.R_below (by (with_reducible repeat (first | apply qA | apply qN | apply qD)); exact HO361.out) hb)
       have n3_ := qM (Kd.R_below (by (with_reducible repeat (first | apply qA | apply qN | apply qD)); exact HO365.out) hb)
       have n4_ := qM (blk_below (g := gb357) (o := .cells #[.int .i64 t350, .int .i64 t351, .int .i64 t352, .int .i64 t353, .int .i64 t354, .int .i64 t355, .int .i64 t356] 46 (0, 0)) (by (with_reducible repeat (first | refine zN ?_ _ | refine zD ?_ | refine zA ?_ _)); exact BK357.out) hb)
       have n5_ := qM (below_step (by repeat (first | (with_reducible first | exact HB.out | apply yA | apply yN | apply yD | refine yS ?_ GE357.out) | exact HB.out)) hb)
       clear HO347
       clear HO349
       clear HO361
       clear HO365
       clear BK357
       clear HB
       have HO347 := n0_
       have HO349 := n1_
       have HO361 := n2_
       have HO365 := n3_
       have BK357 := n4_
       have HB := n5_
       clear n0_ n1_ n2_ n3_ n4_ n5_
       (try clear hb)
       (try clear hb2)
       (try clear hk)
       (try clear hi)
       refine hK.out _ _ ⟨(zC BK357.out 0).trans rfl, (zC BK357.out 1).trans rfl, (zC BK357.out 2).trans rfl, (zC BK357.out 3).trans rfl, (zC BK357.out 4).trans rfl, (zC BK357.out 5).trans rfl, (zC BK357.out 6).trans rfl⟩ (fun hHeld => ?_)
       clear hK K
       refine norm_ (a' := ?_) ?_ ?_
       rotate_left
       ·show Act.put _ (some 55) _ = _
        simp only [Act.put, List.setIfInBounds_toArray, List.set_cons_zero, List.set_cons_succ, i64_w, i32_w]
        rfl
       refine pure_ (i := 14) (N := some 56) (v := ?_) (a' := ?_) #[true, true, true, true, true, true, true, true, true, true, true, true, true, true, true, false] rfl rfl (any_of HT_.out (by kernel_rfl)) (fun _ _ _ h => h) (Or.inl ⟨by rfl, ?_⟩) ?_ ?_
       rotate_left
       ·intro w'
        go_simp
        with_reducible rfl
       rotate_left
       ·simp only [Act.put, List.setIfInBounds_toArray, List.set_cons_zero, List.set_cons_succ, i64_w, i32_w]
        rfl
       refine pure_ (i := 15) (N := some 57) (v := ?_) (a' := ?_) #[true, true, true, true, true, true, true, true, true, true, true, true, true, true, true, true] rfl rfl (any_of HT_.out (by kernel_rfl)) (fun _ _ _ h => h) (Or.inl ⟨by rfl, ?_⟩) ?_ ?_
       rotate_left
       ·intro w'
        go_simp
        with_reducible rfl
       rotate_left
       ·simp only [Act.put, List.setIfInBounds_toArray, List.set_cons_zero, List.set_cons_succ, i64_w, i32_w]
        rfl
       refine done_ (done_of HT_.out (by kernel_rfl)) ?_
       try go_wp2
       go_meet
       case rel => exact ⟨_, ((t367 != t368)), (by first | rfl | (simp; done) | (simp [*]; done)), H', ⟨by have := HJ2.out; first | omega | exact Nat.le_refl _⟩, ⟨by (with_reducible repeat (first | apply qA | apply qN | apply qD)); exact Kd.R_mono HO347.out (fun _ hk => hk.2)⟩, ⟨by (with_reducible repeat (first | apply qA | apply qN | apply qD)); exact Kd.R_mono HO349.out (fun _ hk => hk.1.2)⟩, ⟨by (with_reducible repeat (first | apply qA | apply qN | apply qD)); exact Kd.R_mono HO361.out (fun _ hk => hk.1.2)⟩, ⟨by (with_reducible repeat (first | refine zN ?_ _ | refine zD ?_ | refine zA ?_ _)); exact BK357.out⟩, ⟨by repeat (first | (with_reducible first | exact HB.out | apply yA | apply yN | apply yD | refine yS ?_ GE357.out) | exact HB.out)⟩⟩
      ·replace c22 := Bool.eq_false_iff.mpr c22
       subst c22
       have H1 : (laws_FnGrdMore.j1 kj2 t344 t345 t358 t359 true t350 t351 t352 t353 t354 t355 t356) = some r := by rw [if_neg (show ¬ (false = true) by decide)] at H; exact H
       clear H
       have H := H1
       clear H1
       have H' := qM H
       clear H
       try go_wp2
       have n0_ := qM (qD HO347.out)
       have n1_ := qM (qD HO349.out)
       have n2_ := qM (qD HO361.out)
       have n3_ := qM (qD HO365.out)
       have n4_ := qM (zD BK357.out)
       have n5_ := qM (yD HB.out)
       clear HO347
       clear HO349
       clear HO361
       clear HO365
       clear BK357
       clear HB
       have HO347 := n0_
       have HO349 := n1_
       have HO361 := n2_
       have HO365 := n3_
       have BK357 := n4_
       have HB := n5_
       clear n0_ n1_ n2_ n3_ n4_ n5_
       obtain ⟨Ao31, co31, eo31⟩ := Kd.R_slice HO361.out
       (first | subst eo31 | (injection eo31 with f1_ f2_ f3_; have f4_ := f1_.symm; have f5_ := f3_.symm; clear f1_ f2_ f3_; subst f4_; subst f5_))
       obtain ⟨Ao32, co32, eo32⟩ := Kd.R_slice HO365.out
       (first | subst eo32 | (injection eo32 with f1_ f2_ f3_; have f4_ := f1_.symm; have f5_ := f3_.symm; clear f1_ f2_ f3_; subst f4_; subst f5_))
       refine start_ (n := 16) (S := fun w' => True) (ds := []) #[false, false, false, false, false, false, false, false, false, false, false, false, false, false, false, false] (by kernel_rfl) rfl rfl trivial (fun hHeld => ?_); refine with_tabW laws_FnGrdMore.tab7 laws_FnGrdMore.bits7 (fun HT_ HW_ => ?_)
       generalize w18.drew = w30 at HO347 HO349 HO361 HO365 BK357 HB hHeld ⊢
       refine pure_ (i := 0) (N := some 42) (v := ?_) (a' := ?_) #[true, false, false, false, false, false, false, false, false, false, false, false, false, false, false, false] rfl rfl (any_of HT_.out (by kernel_rfl)) (fun _ _ _ h => h) (Or.inl ⟨by rfl, ?_⟩) ?_ ?_
       rotate_left
       ·intro w'
        go_simp
        with_reducible rfl
       rotate_left
       ·simp only [Act.put, List.setIfInBounds_toArray, List.set_cons_zero, List.set_cons_succ, i64_w, i32_w]
        rfl
       refine pure_ (i := 1) (N := some 43) (v := ?_) (a' := ?_) #[true, true, false, false, false, false, false, false, false, false, false, false, false, false, false, false] rfl rfl (any_of HT_.out (by kernel_rfl)) (fun _ _ _ h => h) (Or.inl ⟨by rfl, ?_⟩) ?_ ?_
       rotate_left
       ·intro w'
        go_simp
        with_reducible rfl
       rotate_left
       ·simp only [Act.put, List.setIfInBounds_toArray, List.set_cons_zero, List.set_cons_succ, i64_w, i32_w]
        rfl
       refine pure_ (i := 2) (N := some 44) (v := ?_) (a' := ?_) #[true, true, true, false, false, false, false, false, false, false, false, false, false, false, false, false] rfl rfl (any_of HT_.out (by kernel_rfl)) (fun _ _ _ h => h) (Or.inl ⟨by rfl, ?_⟩) ?_ ?_
       rotate_left
       ·intro w'
        go_simp
        with_reducible rfl
       rotate_left
       ·simp only [Act.put, List.setIfInBounds_toArray, List.set_cons_zero, List.set_cons_succ, i64_w, i32_w]
        rfl
       refine pure_ (i := 3) (N := some 45) (v := ?_) (a' := ?_) #[true, true, true, true, false, false, false, false, false, false, false, false, false, false, false, false] rfl rfl (any_of HT_.out (by kernel_rfl)) (fun _ _ _ h => h) (Or.inl ⟨by rfl, ?_⟩) ?_ ?_
       rotate_left
       ·intro w'
        go_simp
        with_reducible rfl
       rotate_left
       ·simp only [Act.put, List.setIfInBounds_toArray, List.set_cons_zero, List.set_cons_succ, i64_w, i32_w]
        rfl
       refine pure_ (i := 4) (N := some 46) (v := ?_) (a' := ?_) #[true, true, true, true, true, false, false, false, false, false, false, false, false, false, false, false] rfl rfl (any_of HT_.out (by kernel_rfl)) (fun _ _ _ h => h) (Or.inl ⟨by rfl, ?_⟩) ?_ ?_
       rotate_left
       ·intro w'
        go_simp
        with_reducible rfl
       rotate_left
       ·simp only [Act.put, List.setIfInBounds_toArray, List.set_cons_zero, List.set_cons_succ, i64_w, i32_w]
        rfl
       refine pure_ (i := 5) (N := some 47) (v := ?_) (a' := ?_) #[true, true, true, true, true, true, false, false, false, false, false, false, false, false, false, false] rfl rfl (any_of HT_.out (by kernel_rfl)) (fun _ _ _ h => h) (Or.inl ⟨by rfl, ?_⟩) ?_ ?_
       rotate_left
       ·intro w'
        go_simp
        with_reducible rfl
       rotate_left
       ·simp only [Act.put, List.setIfInBounds_toArray, List.set_cons_zero, List.set_cons_succ, i64_w, i32_w]
        rfl
       refine one_ (i := 6) (N := some 48) #[true, true, true, true, true, true, true, false, false, false, false, false, false, false, false, false] rfl rfl (one_of HT_.out (by kernel_rfl)) (by decide) (fun K hK => ?_)
       refine goes_ Try.func20 (by kernel_rfl) rfl #[.slice Ao31 t358.length co31, .slice Ao32 t362.length co32] (by rfl) rfl rfl (by (try simp only [List.map_toArray, List.map_cons, List.map_nil]); first | done | rfl | (simp only [List.length_drop, List.length_take]; rfl)) ?_
       with_reducible refine (laws_caBytes.calls _ _ t358 _ _ t362 false _ ?side1 ?side2 ?side3 ?side4 A21.out).mono ?_
       (case side1 => repeat (first | exact (qR HO361.out).2.2 | (with_reducible refine Kd.C_alloc ?_ _) | (with_reducible refine Kd.C_drewN ?_ _) | (with_reducible refine Kd.C_drew ?_)))
       (case side2 => exact (qR HO361.out).2.1)
       (case side3 => repeat (first | exact (qR HO365.out).2.2 | (with_reducible refine Kd.C_alloc ?_ _) | (with_reducible refine Kd.C_drewN ?_ _) | (with_reducible refine Kd.C_drew ?_)))
       (case side4 => exact (qR HO365.out).2.1)
       rintro e w' ⟨rfl, ⟨nd, rfl⟩⟩
       refine ⟨_, rfl, ?_⟩
       refine hK.out _ _ trivial (fun hHeld => ?_)
       clear hK K
       refine norm_ (a' := ?_) ?_ ?_
       rotate_left
       ·show Act.put _ (some 48) _ = _
        simp only [Act.put, List.setIfInBounds_toArray, List.set_cons_zero, List.set_cons_succ, i64_w, i32_w]
        rfl
       refine pure_ (i := 7) (N := some 49) (v := ?_) (a' := ?_) #[true, true, true, true, true, true, true, true, false, false, false, false, false, false, false, false] rfl rfl (any_of HT_.out (by kernel_rfl)) (fun _ _ _ h => h) (Or.inl ⟨by rfl, ?_⟩) ?_ ?_
       rotate_left
       ·intro w'
        go_simp
        with_reducible rfl
       rotate_left
       ·simp only [Act.put, List.setIfInBounds_toArray, List.set_cons_zero, List.set_cons_succ, i64_w, i32_w]
        rfl
       refine pure_ (i := 8) (N := some 50) (v := ?_) (a' := ?_) #[true, true, true, true, true, true, true, true, true, false, false, false, false, false, false, false] rfl rfl (any_of HT_.out (by kernel_rfl)) (fun _ _ _ h => h) (Or.inl ⟨by rfl, ?_⟩) ?_ ?_
       rotate_left
       ·intro w'
        go_simp
        with_reducible rfl
       rotate_left
       ·simp only [Act.put, List.setIfInBounds_toArray, List.set_cons_zero, List.set_cons_succ, i64_w, i32_w]
        rfl
       refine pure_ (i := 9) (N := some 51) (v := ?_) (a' := ?_) #[true, true, true, true, true, true, true, true, true, true, false, false, false, false, false, false] rfl rfl (any_of HT_.out (by kernel_rfl)) (fun _ _ _ h => h) (Or.inl ⟨by rfl, ?_⟩) ?_ ?_
       rotate_left
       ·intro w'
        go_simp
        with_reducible rfl
       rotate_left
       ·simp only [Act.put, List.setIfInBounds_toArray, List.set_cons_zero, List.set_cons_succ, i64_w, i32_w]
        rfl
       refine pure_ (i := 10) (N := some 52) (v := undef) (a' := ?_) #[true, true, true, true, true, true, true, true, true, true, true, false, false, false, false, false] rfl rfl (any_of HT_.out (by kernel_rfl)) (fun _ _ _ h => h) (Or.inr ⟨by rfl, rfl⟩) ?_ ?_
       rotate_left
       ·simp only [Act.put, List.setIfInBounds_toArray, List.set_cons_zero, List.set_cons_succ, i64_w, i32_w]
        rfl
       refine pure_ (i := 11) (N := some 53) (v := undef) (a' := ?_) #[true, true, true, true, true, true, true, true, true, true, true, true, false, false, false, false] rfl rfl (any_of HT_.out (by kernel_rfl)) (fun _ _ _ h => h) (Or.inr ⟨by rfl, rfl⟩) ?_ ?_
       rotate_left
       ·simp only [Act.put, List.setIfInBounds_toArray, List.set_cons_zero, List.set_cons_succ, i64_w, i32_w]
        rfl
       refine pure_ (i := 12) (N := some 54) (v := undef) (a' := ?_) #[true, true, true, true, true, true, true, true, true, true, true, true, true, false, false, false] rfl rfl (any_of HT_.out (by kernel_rfl)) (fun _ _ _ h => h) (Or.inr ⟨by rfl, rfl⟩) ?_ ?_
       rotate_left
       ·simp only [Act.put, List.setIfInBounds_toArray, List.set_cons_zero, List.set_cons_succ, i64_w, i32_w]
        rfl
       refine pure_ (i := 13) (N := some 55) (v := undef) (a' := ?_) #[true, true, true, true, true, true, true, true, true, true, true, true, true, true, false, false] rfl rfl (any_of HT_.out (by kernel_rfl)) (fun _ _ _ h => h) (Or.inr ⟨by rfl, rfl⟩) ?_ ?_
       rotate_left
       ·simp only [Act.put, List.setIfInBounds_toArray, List.set_cons_zero, List.set_cons_succ, i64_w, i32_w]
        rfl
       refine pure_ (i := 14) (N := some 56) (v := undef) (a' := ?_) #[true, true, true, true, true, true, true, true, true, true, true, true, true, true, true, false] rfl rfl (any_of HT_.out (by kernel_rfl)) (fun _ _ _ h => h) (Or.inr ⟨by rfl, rfl⟩) ?_ ?_
       rotate_left
       ·simp only [Act.put, List.setIfInBounds_toArray, List.set_cons_zero, List.set_cons_succ, i64_w, i32_w]
        rfl
       refine pure_ (i := 15) (N := some 57) (v := ?_) (a' := ?_) #[true, true, true, true, true, true, true, true, true, true, true, true, true, true, true, true] rfl rfl (any_of HT_.out (by kernel_rfl)) (fun _ _ _ h => h) (Or.inl ⟨by rfl, ?_⟩) ?_ ?_
       rotate_left
       ·intro w'
        go_simp
        with_reducible rfl
       rotate_left
       ·simp only [Act.put, List.setIfInBounds_toArray, List.set_cons_zero, List.set_cons_succ, i64_w, i32_w]
        rfl
       refine done_ (done_of HT_.out (by kernel_rfl)) ?_
       try go_wp2
       go_meet
       case rel => exact ⟨_, (true), (by first | rfl | (simp; done) | (simp [*]; done)), H', ⟨by have := HJ2.out; first | omega | exact Nat.le_refl _⟩, ⟨by (with_reducible repeat (first | apply qA | apply qN | apply qD)); exact Kd.R_mono HO347.out (fun _ hk => hk.2)⟩, ⟨by (with_reducible repeat (first | apply qA | apply qN | apply qD)); exact Kd.R_mono HO349.out (fun _ hk => hk.1.2)⟩, ⟨by (with_reducible repeat (first | apply qA | apply qN | apply qD)); exact Kd.R_mono HO361.out (fun _ hk => hk.1.2)⟩, ⟨by (with_reducible repeat (first | refine zN ?_ _ | refine zD ?_ | refine zA ?_ _)); exact BK357.out⟩, ⟨by repeat (first | (with_reducible first | exact HB.out | apply yA | apply yN | apply yD | refine yS ?_ GE357.out) | exact HB.out)⟩⟩
    case rest =>
     clear HC10
     try clear c1
     try clear c2
     try clear p2
     try clear c3
     try clear c4
     try clear c4b0
     try clear c4b1
     try clear c5
     try clear c19
     try clear c19b0
     try clear c19b1
     try clear c19b2
     try clear c20
     try clear c22
     try clear c24
     try clear c27
     try clear c32
     try clear hcz14_0
     try clear hcz14_1
     try clear hcz14_2
     try clear hcz14_3
     try clear hcz14_4
     try clear hcz14_5
     try clear hcz14_6
     try clear hfz14_0
     try clear hfz14_1
     try clear hfz14_2
     try clear hfz14_3
     try clear hfz14_4
     try clear hfz14_5
     try clear hfz14_6
     try clear p2
     obtain ⟨kq, x57_9, rfl, HA, HJ9, HO_5, HO_6, HO_8, BK357, HB⟩ := hcut
     cases kq with
     | zero => exact absurd HA.out (by simp [laws_FnGrdMore.j1])
     | succ kj9 =>
      have H := HA.out
      clear HA
      simp only [laws_FnGrdMore.j1] at H
      by_cases c33 : x57_9 = true
      ·subst c33
       have H1 : (some false) = some r := by rw [if_pos rfl] at H; exact H
       clear H
       have H := H1
       clear H1
       exact absurd ((Option.some.inj H).trans hr_) (by decide)
      ·replace c33 := Bool.eq_false_iff.mpr c33
       subst c33
       have H1 : ((some (([] : List (S46)) : List (S46))).bind fun y369 => (if y369.length + t344.length < 2513169434916 then ((some (y369 ++ t344 : List (S46))).bind fun y372 => ((some (([(⟨t350, t351, t352, t353, t354, t355, t356⟩ : S46)] : List (S46)) : List (S46))).bind fun y375 => (if y372.length + y375.length < 2513169434916 then ((some (y372 ++ y375 : List (S46))).bind fun y378 => ((impl_GrdDo.f y378 t345).bind fun bt381 => ((spec_GrdOk.f kj9 y378).bind fun t385 => (if t385 = true then (if t359 = true then (if bt381.2 = true then ((laws_caBytes.f bt381.1 t358).bind fun t386 => (some t386)) else (some false)) else (some true)) else (if bt381.2 = true then (some false) else ((impl_GrdRuleOk.f 0 0 0 0 0 0 0).bind fun t387 => (some t387))))))) else (none)))) else (none))) = some r := by rw [if_neg (show ¬ (false = true) by decide)] at H; exact H
       clear H
       have H := H1
       clear H1
       obtain ⟨y369, hy369⟩ : ∃ y_ : List (S46), y_ = (([] : List (S46))) := ⟨_, rfl⟩
       replace H : (if y369.length + t344.length < 2513169434916 then ((some (y369 ++ t344 : List (S46))).bind fun y372 => ((some (([(⟨t350, t351, t352, t353, t354, t355, t356⟩ : S46)] : List (S46)) : List (S46))).bind fun y375 => (if y372.length + y375.length < 2513169434916 then ((some (y372 ++ y375 : List (S46))).bind fun y378 => ((impl_GrdDo.f y378 t345).bind fun bt381 => ((spec_GrdOk.f kj9 y378).bind fun t385 => (if t385 = true then (if t359 = true then (if bt381.2 = true then ((laws_caBytes.f bt381.1 t358).bind fun t386 => (some t386)) else (some false)) else (some true)) else (if bt381.2 = true then (some false) else ((impl_GrdRuleOk.f 0 0 0 0 0 0 0).bind fun t387 => (some t387))))))) else (none)))) else (none)) = some r := by first | (rw [hy369]; with_reducible exact H) | (have H2_ := (Option.bind_some _ _).symm.trans H; rw [hy369]; with_reducible exact H2_) | (have H2_ := (Option.bind_some _ _).symm.trans H; with_reducible exact H2_) | with_reducible exact H | (rw [hy369]; exact H) | exact H
       have Ny369 := qM hy369
       clear hy369
       by_cases c34 : y369.length + t344.length < 2513169434916
       ·rw [if_pos c34] at H
        have LMc34 := qM c34
        clear c34
        obtain ⟨y372, hy372⟩ : ∃ y_ : List (S46), y_ = (y369 ++ t344) := ⟨_, rfl⟩
        replace H : ((some (([(⟨t350, t351, t352, t353, t354, t355, t356⟩ : S46)] : List (S46)) : List (S46))).bind fun y375 => (if y372.length + y375.length < 2513169434916 then ((some (y372 ++ y375 : List (S46))).bind fun y378 => ((impl_GrdDo.f y378 t345).bind fun bt381 => ((spec_GrdOk.f kj9 y378).bind fun t385 => (if t385 = true then (if t359 = true then (if bt381.2 = true then ((laws_caBytes.f bt381.1 t358).bind fun t386 => (some t386)) else (some false)) else (some true)) else (if bt381.2 = true then (some false) else ((impl_GrdRuleOk.f 0 0 0 0 0 0 0).bind fun t387 => (some t387))))))) else (none))) = some r := by first | (rw [hy372]; with_reducible exact H) | (have H2_ := (Option.bind_some _ _).symm.trans H; rw [hy372]; with_reducible exact H2_) | (have H2_ := (Option.bind_some _ _).symm.trans H; with_reducible exact H2_) | with_reducible exact H | (rw [hy372]; exact H) | exact H
        have Ny372 := qM hy372
        clear hy372
        obtain ⟨y375, hy375⟩ : ∃ y_ : List (S46), y_ = (([(⟨t350, t351, t352, t353, t354, t355, t356⟩ : S46)] : List (S46))) := ⟨_, rfl⟩
        replace H : (if y372.length + y375.length < 2513169434916 then ((some (y372 ++ y375 : List (S46))).bind fun y378 => ((impl_GrdDo.f y378 t345).bind fun bt381 => ((spec_GrdOk.f kj9 y378).bind fun t385 => (if t385 = true then (if t359 = true then (if bt381.2 = true then ((laws_caBytes.f bt381.1 t358).bind fun t386 => (some t386)) else (some false)) else (some true)) else (if bt381.2 = true then (some false) else ((impl_GrdRuleOk.f 0 0 0 0 0 0 0).bind fun t387 => (some t387))))))) else (none)) = some r := by first | (rw [hy375]; with_reducible exact H) | (have H2_ := (Option.bind_some _ _).symm.trans H; rw [hy375]; with_reducible exact H2_) | (have H2_ := (Option.bind_some _ _).symm.trans H; with_reducible exact H2_) | with_reducible exact H | (rw [hy375]; exact H) | exact H
        have Ny375 := qM hy375
        clear hy375
        by_cases c35 : y372.length + y375.length < 2513169434916
        ·rw [if_pos c35] at H
         have LMc35 := qM c35
         clear c35
         obtain ⟨y378, hy378⟩ : ∃ y_ : List (S46), y_ = (y372 ++ y375) := ⟨_, rfl⟩
         replace H : ((impl_GrdDo.f y378 t345).bind fun bt381 => ((spec_GrdOk.f kj9 y378).bind fun t385 => (if t385 = true then (if t359 = true then (if bt381.2 = true then ((laws_caBytes.f bt381.1 t358).bind fun t386 => (some t386)) else (some false)) else (some true)) else (if bt381.2 = true then (some false) else ((impl_GrdRuleOk.f 0 0 0 0 0 0 0).bind fun t387 => (some t387)))))) = some r := by first | (rw [hy378]; with_reducible exact H) | (have H2_ := (Option.bind_some _ _).symm.trans H; rw [hy378]; with_reducible exact H2_) | (have H2_ := (Option.bind_some _ _).symm.trans H; with_reducible exact H2_) | with_reducible exact H | (rw [hy378]; exact H) | exact H
         have Ny378 := qM hy378
         clear hy378
         replace H := Option.bind_eq_some_iff.mp H
         obtain ⟨⟨t381, t382⟩, A360, H⟩ := H
         replace H : ((spec_GrdOk.f kj9 y378).bind fun t385 => (if t385 = true then (if t359 = true then (if t382 = true then ((laws_caBytes.f t381 t358).bind fun t386 => (some t386)) else (some false)) else (some true)) else (if t382 = true then (some false) else ((impl_GrdRuleOk.f 0 0 0 0 0 0 0).bind fun t387 => (some t387))))) = some r := H
         have A36 := qM A360
         clear A360
         replace H := Option.bind_eq_some_iff.mp H
         obtain ⟨t385, A370, H⟩ := H
         replace H : (if t385 = true then (if t359 = true then (if t382 = true then ((laws_caBytes.f t381 t358).bind fun t386 => (some t386)) else (some false)) else (some true)) else (if t382 = true then (some false) else ((impl_GrdRuleOk.f 0 0 0 0 0 0 0).bind fun t387 => (some t387)))) = some r := H
         have A37 := qM A370
         clear A370
         by_cases c38 : t385 = true
         ·subst c38
          have H1 : (if t359 = true then (if t382 = true then ((laws_caBytes.f t381 t358).bind fun t386 => (some t386)) else (some false)) else (some true)) = some r := by rw [if_pos rfl] at H; exact H
          clear H
          have H := H1
          clear H1
          by_cases c39 : t359 = true
          ·subst c39
           have H1 : (if t382 = true then ((laws_caBytes.f t381 t358).bind fun t386 => (some t386)) else (some false)) = some r := by rw [if_pos rfl] at H; exact H
           clear H
           have H := H1
           clear H1
           by_cases c40 : t382 = true
           ·subst c40
            have H1 : ((laws_caBytes.f t381 t358).bind fun t386 => (some t386)) = some r := by rw [if_pos rfl] at H; exact H
            clear H
            have H := H1
            clear H1
            replace H := Option.bind_eq_some_iff.mp H
            obtain ⟨t386, A410, H⟩ := H
            replace H : (some t386) = some r := H
            have A41 := qM A410
            clear A410
            obtain rfl := Option.some.inj H
            try go_wp2
            have n0_ := qM (qD HO_5.out)
            have n1_ := qM (qD HO_6.out)
            have n2_ := qM (qD HO_8.out)
            have n3_ := qM (zD BK357.out)
            have n4_ := qM (yD HB.out)
            clear HO_5
            clear HO_6
            clear HO_8
            clear BK357
            clear HB
            have HO_5 := n0_
            have HO_6 := n1_
            have HO_8 := n2_
            have BK357 := n3_
            have HB := n4_
            clear n0_ n1_ n2_ n3_ n4_
            refine start_ (n := 7) (S := fun w' => w'.cell? ⟨gb357, 0, none⟩ = some (.int .i64 t350) ∧ w'.cell? ⟨gb357, 1, none⟩ = some (.int .i64 t351) ∧ w'.cell? ⟨gb357, 2, none⟩ = some (.int .i64 t352) ∧ w'.cell? ⟨gb357, 3, none⟩ = some (.int .i64 t353) ∧ w'.cell? ⟨gb357, 4, none⟩ = some (.int .i64 t354) ∧ w'.cell? ⟨gb357, 5, none⟩ = some (.int .i64 t355) ∧ w'.cell? ⟨gb357, 6, none⟩ = some (.int .i64 t356)) (ds := []) #[false, false, false, false, false, false, false] (by kernel_rfl) rfl rfl ⟨(zC BK357.out 0).trans rfl, (zC BK357.out 1).trans rfl, (zC BK357.out 2).trans rfl, (zC BK357.out 3).trans rfl, (zC BK357.out 4).trans rfl, (zC BK357.out 5).trans rfl, (zC BK357.out 6).trans rfl⟩ (fun hHeld => ?_)
            generalize wc.drew = w42 at HO_5 HO_6 HO_8 BK357 HB hHeld ⊢
            refine pure_ (i := 1) (N := some 59) (v := ?_) (a' := ?_) #[false, true, false, false, false, false, false] rfl rfl (by kernel_rfl) (fun _ _ _ h => h) (Or.inl ⟨by rfl, ?_⟩) ?_ ?_
            rotate_left
            ·intro w'
             go_simp
             with_reducible rfl
            rotate_left
            ·simp only [Act.put, List.setIfInBounds_toArray, List.set_cons_zero, List.set_cons_succ, i64_w, i32_w]
             rfl
            refine take_ (i := 3) (N := some 61) (v := ?_) (a' := ?_) #[false, true, false, true, false, false, false] rfl rfl (by kernel_rfl) (fun _ _ _ h => h) (Or.inl ⟨by rfl, ?_⟩) hHeld ?_ ?_
            rotate_left
            ·rintro w' ⟨s0, s1, s2, s3, s4, s5, s6⟩
             go_simp
             with_reducible rfl
            rotate_left
            ·simp only [Act.put, List.setIfInBounds_toArray, List.set_cons_zero, List.set_cons_succ, i64_w, i32_w]
             rfl
            refine join_ (σ := Value × Value × Value) 2 #[true, true, true, true, true, false, false] (fun s_ => [(58, s_.1), (60, s_.2.1), (62, s_.2.2)]) (fun s_ w' => (w'.cell? ⟨gb357, 0, none⟩ = some (.int .i64 t350) ∧ w'.cell? ⟨gb357, 1, none⟩ = some (.int .i64 t351) ∧ w'.cell? ⟨gb357, 2, none⟩ = some (.int .i64 t352) ∧ w'.cell? ⟨gb357, 3, none⟩ = some (.int .i64 t353) ∧ w'.cell? ⟨gb357, 4, none⟩ = some (.int .i64 t354) ∧ w'.cell? ⟨gb357, 5, none⟩ = some (.int .i64 t355) ∧ w'.cell? ⟨gb357, 6, none⟩ = some (.int .i64 t356)) ∧ (Kd.R k46 46 w' w.heap.size (fun k_ => some k_ ≠ (s_.2.2 : Value).ownBlock ∧ some k_ ≠ (.slice Ao15 t344.length co15 : Value).ownBlock ∧ k_ ≠ gb357) s_.2.1 y372) ∧ (Kd.R k46 46 w' w.heap.size (fun k_ => some k_ ≠ (s_.2.1 : Value).ownBlock ∧ some k_ ≠ (.slice Ao15 t344.length co15 : Value).ownBlock ∧ k_ ≠ gb357) s_.2.2 y375) ∧ (Kd.R k46 46 w' w.heap.size (fun k_ => some k_ ≠ (s_.2.1 : Value).ownBlock ∧ some k_ ≠ (s_.2.2 : Value).ownBlock ∧ k_ ≠ gb357) (.slice Ao15 t344.length co15) t344) ∧ (Kd.R (Kd.int .u8) 5 w' w.heap.size (fun k_ => some k_ ≠ (v360 : Value).ownBlock) (.slice Ao16 t345.length co16) t345) ∧ (Kd.R (Kd.int .u8) 5 w' w.heap.size (fun k_ => some k_ ≠ (.slice Ao16 t345.length co16 : Value).ownBlock) v360 t358) ∧ (w'.heap[gb357]? = some (.cells #[.int .i64 t350, .int .i64 t351, .int .i64 t352, .int .i64 t353, .int .i64 t354, .int .i64 t355, .int .i64 t356] 46 (0, 0))) ∧ (Below w.heap.size w w')) ?_ ?_
            rotate_left
            ·intro hCont
             refine two_ (i := 0) (j := 4) (Ni := some 58) (Nj := some 62) #[true, true, false, true, false, false, false] #[false, true, false, true, true, false, false] rfl rfl rfl rfl (by kernel_rfl) (by decide) (by decide) (fun K hK => ?_) (fun K hK => ?_)
             ·skip
              refine Kd.R_lit_step k46 _ 46 ?hg (N := 58) ?hd (xs := ([] : List (S46))) (inner := []) (ok := fun _ => True) (okp := fun _ => True) ?hr ?hp (fun _ hk => hk) trivial (Below.refl _ _) (Nat.le_refl _) (by simp) ?_; (case hd => rfl); (case hg => rfl); (case hr => first | (go_simp; done) | (go_simp; rfl)); (case hp => exact (Reps.none _ _))
              intro v370 w43 ho44 hb hg_ hnew_
              clear hg_ hnew_
              (first | rw [← Ny369.out] at ho44 | (simp only [Int.reduceToNat] at ho44; rw [← Ny369.out] at ho44))
              have n0_ := qM (Kd.R_elder' (by (with_reducible repeat (first | apply qA | apply qN | apply qD)); exact HO_5.out) (Kd.R_base ho44) hb)
              have n1_ := qM (Kd.R_below (by (with_reducible repeat (first | apply qA | apply qN | apply qD)); exact HO_6.out) hb)
              have n2_ := qM (Kd.R_below (by (with_reducible repeat (first | apply qA | apply qN | apply qD)); exact HO_8.out) hb)
              have n3_ := qM (Kd.R_lower (Kd.R_newB (Kd.R_new' ho44 (Kd.R_lt (by (with_reducible repeat (first | apply qA | apply qN | apply qD)); exact HO_5.out))) (g := gb357) (o := .cells #[.int .i64 t350, .int .i64 t351, .int .i64 t352, .int .i64 t353, .int .i64 t354, .int .i64 t355, .int .i64 t356] 46 (0, 0)) (by (with_reducible repeat (first | refine zN ?_ _ | refine zD ?_ | refine zA ?_ _)); exact BK357.out)) (below_size (by repeat (first | (with_reducible first | exact HB.out | apply yA | apply yN | apply yD | refine yS ?_ GE357.out) | exact HB.out))))
              have n4_ := qM (blk_below (g := gb357) (o := .cells #[.int .i64 t350, .int .i64 t351, .int .i64 t352, .int .i64 t353, .int .i64 t354, .int .i64 t355, .int .i64 t356] 46 (0, 0)) (by (with_reducible repeat (first | refine zN ?_ _ | refine zD ?_ | refine zA ?_ _)); exact BK357.out) hb)
              have n5_ := qM (below_step (by repeat (first | (with_reducible first | exact HB.out | apply yA | apply yN | apply yD | refine yS ?_ GE357.out) | exact HB.out)) hb)
              clear HO_5
              clear HO_6
              clear HO_8
              clear BK357
              clear HB
              have HO_5 := n0_
              have HO_6 := n1_
              have HO_8 := n2_
              have HO371 := n3_
              have BK357 := n4_
              have HB := n5_
              clear n0_ n1_ n2_ n3_ n4_ n5_
              clear hb ho44
              refine hK.out _ _ ⟨(zC BK357.out 0).trans rfl, (zC BK357.out 1).trans rfl, (zC BK357.out 2).trans rfl, (zC BK357.out 3).trans rfl, (zC BK357.out 4).trans rfl, (zC BK357.out 5).trans rfl, (zC BK357.out 6).trans rfl⟩ (fun hHeld => ?_)
              clear hK K
              refine norm_ (a' := ?_) ?_ ?_
              rotate_left
              ·show Act.put _ (some 58) _ = _
               simp only [Act.put, List.setIfInBounds_toArray, List.set_cons_zero, List.set_cons_succ, i64_w, i32_w]
               rfl
              refine two_ (i := 2) (j := 4) (Ni := some 60) (Nj := some 62) #[true, true, true, true, false, false, false] #[true, true, false, true, true, false, false] rfl rfl rfl rfl (by kernel_rfl) (by decide) (by decide) (fun K hK => ?_) (fun K hK => ?_)
              ·skip
               refine Kd.R_append_rows_step k46 (w0 := w) w.heap.size (by rfl) (.tmp 58) (.tmp 59) 36 46 (.agg #[(.int .i64 0), (.int .i64 0), (.int .i64 0), (.int .i64 0), (.int .i64 0), (.int .i64 0), (.int .i64 0)]) 56 rfl Try.underlying36 info46 rfl (by decide) (by omega) v370 y369 t344 _ _ _ (fun k_ => some k_ ≠ (.slice Ao15 t344.length co15 : Value).ownBlock ∧ k_ ≠ gb357) (fun _ => False) rfl rfl ?aO ?aR (fun _ _ h => h) (fun _ h => h.elim) ?aF ?aB ?aS ?aL ?_
               (case aR => repeat (first | exact (qR HO_5.out).2.2 | (with_reducible refine Kd.C_alloc ?_ _) | (with_reducible refine Kd.C_drewN ?_ _) | (with_reducible refine Kd.C_drew ?_)))
               (case aB => exact (by repeat (first | (with_reducible first | exact HB.out | apply yA | apply yN | apply yD | refine yS ?_ GE357.out) | exact HB.out)))
               (case aF => exact (fun k_ hk => ⟨Kd.fresh' (Kd.R_lt (by (with_reducible repeat (first | apply qA | apply qN | apply qD)); exact HO_5.out)) k_ hk, Kd.freshB (g := gb357) (o := .cells #[.int .i64 t350, .int .i64 t351, .int .i64 t352, .int .i64 t353, .int .i64 t354, .int .i64 t355, .int .i64 t356] 46 (0, 0)) (by (with_reducible repeat (first | refine zN ?_ _ | refine zD ?_ | refine zA ?_ _)); exact BK357.out) k_ hk⟩))
               (case aO => exact (by (with_reducible repeat (first | apply qA | apply qN | apply qD)); exact Kd.R_mono HO371.out (fun _ hk => ⟨hk.1.2, hk.2⟩)))
               (case aS => exact (below_size (by repeat (first | (with_reducible first | exact HB.out | apply yA | apply yN | apply yD | refine yS ?_ GE357.out) | exact HB.out))))
               (case aL => have := LMc34.out; omega)
               intro v373 w45 ho hb hg hat
               rw [← Ny372.out] at ho
               have n0_ := qM (Kd.R_after (ok := (fun k_ => k_ ≠ gb357)) (by (with_reducible repeat (first | apply qA | apply qN | apply qD)); exact HO_5.out) hg hat)
               have n1_ := qM (Kd.R_over' (by (with_reducible repeat (first | apply qA | apply qN | apply qD)); exact HO_6.out) (Kd.R_typed (by (with_reducible repeat (first | apply qA | apply qN | apply qD)); exact HO371.out)) (by decide) hg)
               have n2_ := qM (Kd.R_over' (by (with_reducible repeat (first | apply qA | apply qN | apply qD)); exact HO_8.out) (Kd.R_typed (by (with_reducible repeat (first | apply qA | apply qN | apply qD)); exact HO371.out)) (by decide) hg)
               have n3_ := qM (blk_grown (g := gb357) (o := .cells #[.int .i64 t350, .int .i64 t351, .int .i64 t352, .int .i64 t353, .int .i64 t354, .int .i64 t355, .int .i64 t356] 46 (0, 0)) (by (with_reducible repeat (first | refine zN ?_ _ | refine zD ?_ | refine zA ?_ _)); exact BK357.out) hg (Kd.R_away HO371.out (fun _ hk => hk.2)))
               have n4_ := qM (hb)
               have n5_ := qM (ho)
               clear HO_5
               clear HO_6
               clear HO_8
               clear BK357
               clear HB
               clear HO371
               have HO_5 := n0_
               have HO_6 := n1_
               have HO_8 := n2_
               have BK357 := n3_
               have HB := n4_
               have HO374 := n5_
               clear n0_ n1_ n2_ n3_ n4_ n5_
               clear ho hb hg hat
               refine hK.out _ _ ⟨(zC BK357.out 0).trans rfl, (zC BK357.out 1).trans rfl, (zC BK357.out 2).trans rfl, (zC BK357.out 3).trans rfl, (zC BK357.out 4).trans rfl, (zC BK357.out 5).trans rfl, (zC BK357.out 6).trans rfl⟩ (fun hHeld => ?_)
               clear hK K
               refine norm_ (a' := ?_) ?_ ?_
               rotate_left
               ·show Act.put _ (some 60) _ = _
                simp only [Act.put, List.setIfInBounds_toArray, List.set_cons_zero, List.set_cons_succ, i64_w, i32_w]
                rfl
               refine one_ (i := 4) (N := some 62) #[true, true, true, true, true, false, false] rfl rfl (by kernel_rfl) (by decide) (fun K hK => ?_)
               refine Kd.R_lit_step k46 _ 46 ?hg (N := 62) ?hd (xs := ([(⟨t350, t351, t352, t353, t354, t355, t356⟩ : S46)] : List (S46))) (inner := [.int .i64 t350, .int .i64 t351, .int .i64 t352, .int .i64 t353, .int .i64 t354, .int .i64 t355, .int .i64 t356]) (ok := fun _ => True) (okp := fun _ => True) ?hr ?hp (fun _ hk => hk) trivial (Below.refl _ _) (Nat.le_refl _) (by simp) ?_; (case hd => rfl); (case hg => rfl); (case hr => first | (go_simp; done) | (go_simp; rfl)); (case hp => exact (Reps.c7 (show Kd.M k46 _ _ _ (⟨t350, t351, t352, t353, t354, t355, t356⟩ : S46) [.int .i64 t350, .int .i64 t351, .int .i64 t352, .int .i64 t353, .int .i64 t354, .int .i64 t355, .int .i64 t356] from (k46_mkM _ _ _ (⟨t350, t351, t352, t353, t354, t355, t356⟩ : S46) )) (Reps.none _ _)))
               intro v376 w46 ho47 hb hg_ hnew_
               clear hg_ hnew_
               (first | rw [← Ny375.out] at ho47 | (simp only [Int.reduceToNat] at ho47; rw [← Ny375.out] at ho47))
               have n0_ := qM (Kd.R_elder' (by (with_reducible repeat (first | apply qA | apply qN | apply qD)); exact HO_5.out) (Kd.R_base ho47) hb)
               have n1_ := qM (Kd.R_below (by (with_reducible repeat (first | apply qA | apply qN | apply qD)); exact HO_6.out) hb)
               have n2_ := qM (Kd.R_below (by (with_reducible repeat (first | apply qA | apply qN | apply qD)); exact HO_8.out) hb)
               have n3_ := qM (Kd.R_elder' (by (with_reducible repeat (first | apply qA | apply qN | apply qD)); exact HO374.out) (Kd.R_base ho47) hb)
               have n4_ := qM (Kd.R_lower (Kd.R_newB (Kd.R_new' (Kd.R_new' ho47 (Kd.R_lt (by (with_reducible repeat (first | apply qA | apply qN | apply qD)); exact HO_5.out))) (Kd.R_lt (by (with_reducible repeat (first | apply qA | apply qN | apply qD)); exact HO374.out))) (g := gb357) (o := .cells #[.int .i64 t350, .int .i64 t351, .int .i64 t352, .int .i64 t353, .int .i64 t354, .int .i64 t355, .int .i64 t356] 46 (0, 0)) (by (with_reducible repeat (first | refine zN ?_ _ | refine zD ?_ | refine zA ?_ _)); exact BK357.out)) (below_size (by repeat (first | (with_reducible first | exact HB.out | apply yA | apply yN | apply yD | refine yS ?_ GE357.out) | exact HB.out))))
               have n5_ := qM (blk_below (g := gb357) (o := .cells #[.int .i64 t350, .int .i64 t351, .int .i64 t352, .int .i64 t353, .int .i64 t354, .int .i64 t355, .int .i64 t356] 46 (0, 0)) (by (with_reducible repeat (first | refine zN ?_ _ | refine zD ?_ | refine zA ?_ _)); exact BK357.out) hb)
               have n6_ := qM (below_step (by repeat (first | (with_reducible first | exact HB.out | apply yA | apply yN | apply yD | refine yS ?_ GE357.out) | exact HB.out)) hb)
               clear HO_5
               clear HO_6
               clear HO_8
               clear HO374
               clear BK357
               clear HB
               have HO_5 := n0_
               have HO_6 := n1_
               have HO_8 := n2_
               have HO374 := n3_
               have HO377 := n4_
               have BK357 := n5_
               have HB := n6_
               clear n0_ n1_ n2_ n3_ n4_ n5_ n6_
               clear hb ho47
               refine hK.out _ _ ⟨(zC BK357.out 0).trans rfl, (zC BK357.out 1).trans rfl, (zC BK357.out 2).trans rfl, (zC BK357.out 3).trans rfl, (zC BK357.out 4).trans rfl, (zC BK357.out 5).trans rfl, (zC BK357.out 6).trans rfl⟩ (fun hHeld => ?_)
               clear hK K
               refine norm_ (a' := ?_) ?_ ?_
               rotate_left
               ·show Act.put _ (some 62) _ = _
                simp only [Act.put, List.setIfInBounds_toArray, List.set_cons_zero, List.set_cons_succ, i64_w, i32_w]
                rfl
               exact norm_ (by simp only [putAll, Act.put, List.setIfInBounds_toArray, List.set_cons_zero, List.set_cons_succ]) (hCont (v370, v373, v376) _ ⟨hHeld, (by (with_reducible repeat (first | apply qA | apply qN | apply qD)); exact Kd.R_mono HO374.out (fun _ hk => ⟨hk.2, ⟨hk.1.1, hk.1.2⟩⟩)), (by (with_reducible repeat (first | apply qA | apply qN | apply qD)); exact Kd.R_mono HO377.out (fun _ hk => ⟨hk.1.2, ⟨hk.1.1.2, hk.2⟩⟩)), (by (with_reducible repeat (first | apply qA | apply qN | apply qD)); exact Kd.R_mono HO_5.out (fun _ hk => ⟨hk.1.2, ⟨hk.2, hk.1.1⟩⟩)), (by (with_reducible repeat (first | apply qA | apply qN | apply qD)); exact HO_6.out), (by (with_reducible repeat (first | apply qA | apply qN | apply qD)); exact HO_8.out), (by (with_reducible repeat (first | refine zN ?_ _ | refine zD ?_ | refine zA ?_ _)); exact BK357.out), (by repeat (first | (with_reducible first | exact HB.out | apply yA | apply yN | apply yD | refine yS ?_ GE357.out) | exact HB.out))⟩)
              ·skip
               refine Kd.R_lit_step k46 _ 46 ?hg (N := 62) ?hd (xs := ([(⟨t350, t351, t352, t353, t354, t355, t356⟩ : S46)] : List (S46))) (inner := [.int .i64 t350, .int .i64 t351, .int .i64 t352, .int .i64 t353, .int .i64 t354, .int .i64 t355, .int .i64 t356]) (ok := fun _ => True) (okp := fun _ => True) ?hr ?hp (fun _ hk => hk) trivial (Below.refl _ _) (Nat.le_refl _) (by simp) ?_; (case hd => rfl); (case hg => rfl); (case hr => first | (go_simp; done) | (go_simp; rfl)); (case hp => exact (Reps.c7 (show Kd.M k46 _ _ _ (⟨t350, t351, t352, t353, t354, t355, t356⟩ : S46) [.int .i64 t350, .int .i64 t351, .int .i64 t352, .int .i64 t353, .int .i64 t354, .int .i64 t355, .int .i64 t356] from (k46_mkM _ _ _ (⟨t350, t351, t352, t353, t354, t355, t356⟩ : S46) )) (Reps.none _ _)))
               intro v376 w45 ho46 hb hg_ hnew_
               clear hg_ hnew_
               (first | rw [← Ny375.out] at ho46 | (simp only [Int.reduceToNat] at ho46; rw [← Ny375.out] at ho46))
               have n0_ := qM (Kd.R_elder' (by (with_reducible repeat (first | apply qA | apply qN | apply qD)); exact HO_5.out) (Kd.R_base ho46) hb)
               have n1_ := qM (Kd.R_below (by (with_reducible repeat (first | apply qA | apply qN | apply qD)); exact HO_6.out) hb)
               have n2_ := qM (Kd.R_below (by (with_reducible repeat (first | apply qA | apply qN | apply qD)); exact HO_8.out) hb)
               have n3_ := qM (Kd.R_elder' (by (with_reducible repeat (first | apply qA | apply qN | apply qD)); exact HO371.out) (Kd.R_base ho46) hb)
               have n4_ := qM (Kd.R_lower (Kd.R_newB (Kd.R_new' (Kd.R_new' ho46 (Kd.R_lt (by (with_reducible repeat (first | apply qA | apply qN | apply qD)); exact HO_5.out))) (Kd.R_lt (by (with_reducible repeat (first | apply qA | apply qN | apply qD)); exact HO371.out))) (g := gb357) (o := .cells #[.int .i64 t350, .int .i64 t351, .int .i64 t352, .int .i64 t353, .int .i64 t354, .int .i64 t355, .int .i64 t356] 46 (0, 0)) (by (with_reducible repeat (first | refine zN ?_ _ | refine zD ?_ | refine zA ?_ _)); exact BK357.out)) (below_size (by repeat (first | (with_reducible first | exact HB.out | apply yA | apply yN | apply yD | refine yS ?_ GE357.out) | exact HB.out))))
               have n5_ := qM (blk_below (g := gb357) (o := .cells #[.int .i64 t350, .int .i64 t351, .int .i64 t352, .int .i64 t353, .int .i64 t354, .int .i64 t355, .int .i64 t356] 46 (0, 0)) (by (with_reducible repeat (first | refine zN ?_ _ | refine zD ?_ | refine zA ?_ _)); exact BK357.out) hb)
               have n6_ := qM (below_step (by repeat (first | (with_reducible first | exact HB.out | apply yA | apply yN | apply yD | refine yS ?_ GE357.out) | exact HB.out)) hb)
               clear HO_5
               clear HO_6
               clear HO_8
               clear HO371
               clear BK357
               clear HB
               have HO_5 := n0_
               have HO_6 := n1_
               have HO_8 := n2_
               have HO371 := n3_
               have HO377 := n4_
               have BK357 := n5_
               have HB := n6_
               clear n0_ n1_ n2_ n3_ n4_ n5_ n6_
               clear hb ho46
               refine hK.out _ _ ⟨(zC BK357.out 0).trans rfl, (zC BK357.out 1).trans rfl, (zC BK357.out 2).trans rfl, (zC BK357.out 3).trans rfl, (zC BK357.out 4).trans rfl, (zC BK357.out 5).trans rfl, (zC BK357.out 6).trans rfl⟩ (fun hHeld => ?_)
               clear hK K
               refine norm_ (a' := ?_) ?_ ?_
               rotate_left
               ·show Act.put _ (some 62) _ = _
                simp only [Act.put, List.setIfInBounds_toArray, List.set_cons_zero, List.set_cons_succ, i64_w, i32_w]
                rfl
               refine one_ (i := 2) (N := some 60) #[true, true, true, true, true, false, false] rfl rfl (by kernel_rfl) (by decide) (fun K hK => ?_)
               refine Kd.R_append_rows_step k46 (w0 := w) w.heap.size (by rfl) (.tmp 58) (.tmp 59) 36 46 (.agg #[(.int .i64 0), (.int .i64 0), (.int .i64 0), (.int .i64 0), (.int .i64 0), (.int .i64 0), (.int .i64 0)]) 56 rfl Try.underlying36 info46 rfl (by decide) (by omega) v370 y369 t344 _ _ _ (fun k_ => some k_ ≠ (.slice Ao15 t344.length co15 : Value).ownBlock ∧ some k_ ≠ (v376 : Value).ownBlock ∧ k_ ≠ gb357) (fun _ => False) rfl rfl ?aO ?aR (fun _ _ h => h) (fun _ h => h.elim) ?aF ?aB ?aS ?aL ?_
               (case aR => repeat (first | exact (qR HO_5.out).2.2 | (with_reducible refine Kd.C_alloc ?_ _) | (with_reducible refine Kd.C_drewN ?_ _) | (with_reducible refine Kd.C_drew ?_)))
               (case aB => exact (by repeat (first | (with_reducible first | exact HB.out | apply yA | apply yN | apply yD | refine yS ?_ GE357.out) | exact HB.out)))
               (case aF => exact (fun k_ hk => ⟨Kd.fresh' (Kd.R_lt (by (with_reducible repeat (first | apply qA | apply qN | apply qD)); exact HO_5.out)) k_ hk, Kd.fresh' (Kd.R_lt (by (with_reducible repeat (first | apply qA | apply qN | apply qD)); exact HO377.out)) k_ hk, Kd.freshB (g := gb357) (o := .cells #[.int .i64 t350, .int .i64 t351, .int .i64 t352, .int .i64 t353, .int .i64 t354, .int .i64 t355, .int .i64 t356] 46 (0, 0)) (by (with_reducible repeat (first | refine zN ?_ _ | refine zD ?_ | refine zA ?_ _)); exact BK357.out) k_ hk⟩))
               (case aO => exact (by (with_reducible repeat (first | apply qA | apply qN | apply qD)); exact Kd.R_mono HO371.out (fun _ hk => ⟨hk.1.1.2, ⟨hk.2, hk.1.2⟩⟩)))
               (case aS => exact (below_size (by repeat (first | (with_reducible first | exact HB.out | apply yA | apply yN | apply yD | refine yS ?_ GE357.out) | exact HB.out))))
               (case aL => have := LMc34.out; omega)
               intro v373 w47 ho hb hg hat
               rw [← Ny372.out] at ho
               have n0_ := qM (Kd.R_after (ok := (fun k_ => some k_ ≠ (v376 : Value).ownBlock ∧ k_ ≠ gb357)) (by (with_reducible repeat (first | apply qA | apply qN | apply qD)); exact Kd.R_mono HO_5.out (fun _ hk => ⟨⟨hk.2, hk.1.1⟩, hk.1.2⟩)) hg hat)
               have n1_ := qM (Kd.R_over' (by (with_reducible repeat (first | apply qA | apply qN | apply qD)); exact HO_6.out) (Kd.R_typed (by (with_reducible repeat (first | apply qA | apply qN | apply qD)); exact HO371.out)) (by decide) hg)
               have n2_ := qM (Kd.R_over' (by (with_reducible repeat (first | apply qA | apply qN | apply qD)); exact HO_8.out) (Kd.R_typed (by (with_reducible repeat (first | apply qA | apply qN | apply qD)); exact HO371.out)) (by decide) hg)
               have n3_ := qM (blk_grown (g := gb357) (o := .cells #[.int .i64 t350, .int .i64 t351, .int .i64 t352, .int .i64 t353, .int .i64 t354, .int .i64 t355, .int .i64 t356] 46 (0, 0)) (by (with_reducible repeat (first | refine zN ?_ _ | refine zD ?_ | refine zA ?_ _)); exact BK357.out) hg (Kd.R_away HO371.out (fun _ hk => hk.1.2)))
               have n4_ := qM (Kd.R_after (ok := (fun k_ => some k_ ≠ (.slice Ao15 t344.length co15 : Value).ownBlock ∧ k_ ≠ gb357)) (by (with_reducible repeat (first | apply qA | apply qN | apply qD)); exact Kd.R_mono HO377.out (fun _ hk => ⟨⟨hk.1.1.2, hk.2⟩, hk.1.2⟩)) hg hat)
               have n5_ := qM (hb)
               have n6_ := qM (ho)
               clear HO_5
               clear HO_6
               clear HO_8
               clear BK357
               clear HO377
               clear HB
               clear HO371
               have HO_5 := n0_
               have HO_6 := n1_
               have HO_8 := n2_
               have BK357 := n3_
               have HO377 := n4_
               have HB := n5_
               have HO374 := n6_
               clear n0_ n1_ n2_ n3_ n4_ n5_ n6_
               clear ho hb hg hat
               refine hK.out _ _ ⟨(zC BK357.out 0).trans rfl, (zC BK357.out 1).trans rfl, (zC BK357.out 2).trans rfl, (zC BK357.out 3).trans rfl, (zC BK357.out 4).trans rfl, (zC BK357.out 5).trans rfl, (zC BK357.out 6).trans rfl⟩ (fun hHeld => ?_)
               clear hK K
               refine norm_ (a' := ?_) ?_ ?_
               rotate_left
               ·show Act.put _ (some 60) _ = _
                simp only [Act.put, List.setIfInBounds_toArray, List.set_cons_zero, List.set_cons_succ, i64_w, i32_w]
                rfl
               exact norm_ (by simp only [putAll, Act.put, List.setIfInBounds_toArray, List.set_cons_zero, List.set_cons_succ]) (hCont (v370, v373, v376) _ ⟨hHeld, (by (with_reducible repeat (first | apply qA | apply qN | apply qD)); exact Kd.R_mono HO374.out (fun _ hk => ⟨hk.2.1, ⟨hk.1, hk.2.2⟩⟩)), (by (with_reducible repeat (first | apply qA | apply qN | apply qD)); exact Kd.R_mono HO377.out (fun _ hk => ⟨hk.2, ⟨hk.1.1, hk.1.2⟩⟩)), (by (with_reducible repeat (first | apply qA | apply qN | apply qD)); exact Kd.R_mono HO_5.out (fun _ hk => ⟨hk.2, ⟨hk.1.1, hk.1.2⟩⟩)), (by (with_reducible repeat (first | apply qA | apply qN | apply qD)); exact HO_6.out), (by (with_reducible repeat (first | apply qA | apply qN | apply qD)); exact HO_8.out), (by (with_reducible repeat (first | refine zN ?_ _ | refine zD ?_ | refine zA ?_ _)); exact BK357.out), (by repeat (first | (with_reducible first | exact HB.out | apply yA | apply yN | apply yD | refine yS ?_ GE357.out) | exact HB.out))⟩)
             ·skip
              refine Kd.R_lit_step k46 _ 46 ?hg (N := 62) ?hd (xs := ([(⟨t350, t351, t352, t353, t354, t355, t356⟩ : S46)] : List (S46))) (inner := [.int .i64 t350, .int .i64 t351, .int .i64 t352, .int .i64 t353, .int .i64 t354, .int .i64 t355, .int .i64 t356]) (ok := fun _ => True) (okp := fun _ => True) ?hr ?hp (fun _ hk => hk) trivial (Below.refl _ _) (Nat.le_refl _) (by simp) ?_; (case hd => rfl); (case hg => rfl); (case hr => first | (go_simp; done) | (go_simp; rfl)); (case hp => exact (Reps.c7 (show Kd.M k46 _ _ _ (⟨t350, t351, t352, t353, t354, t355, t356⟩ : S46) [.int .i64 t350, .int .i64 t351, .int .i64 t352, .int .i64 t353, .int .i64 t354, .int .i64 t355, .int .i64 t356] from (k46_mkM _ _ _ (⟨t350, t351, t352, t353, t354, t355, t356⟩ : S46) )) (Reps.none _ _)))
              intro v376 w43 ho44 hb hg_ hnew_
              clear hg_ hnew_
              (first | rw [← Ny375.out] at ho44 | (simp only [Int.reduceToNat] at ho44; rw [← Ny375.out] at ho44))
              have n0_ := qM (Kd.R_elder' (by (with_reducible repeat (first | apply qA | apply qN | apply qD)); exact HO_5.out) (Kd.R_base ho44) hb)
              have n1_ := qM (Kd.R_below (by (with_reducible repeat (first | apply qA | apply qN | apply qD)); exact HO_6.out) hb)
              have n2_ := qM (Kd.R_below (by (with_reducible repeat (first | apply qA | apply qN | apply qD)); exact HO_8.out) hb)
              have n3_ := qM (Kd.R_lower (Kd.R_newB (Kd.R_new' ho44 (Kd.R_lt (by (with_reducible repeat (first | apply qA | apply qN | apply qD)); exact HO_5.out))) (g := gb357) (o := .cells #[.int .i64 t350, .int .i64 t351, .int .i64 t352, .int .i64 t353, .int .i64 t354, .int .i64 t355, .int .i64 t356] 46 (0, 0)) (by (with_reducible repeat (first | refine zN ?_ _ | refine zD ?_ | refine zA ?_ _)); exact BK357.out)) (below_size (by repeat (first | (with_reducible first | exact HB.out | apply yA | apply yN | apply yD | refine yS ?_ GE357.out) | exact HB.out))))
              have n4_ := qM (blk_below (g := gb357) (o := .cells #[.int .i64 t350, .int .i64 t351, .int .i64 t352, .int .i64 t353, .int .i64 t354, .int .i64 t355, .int .i64 t356] 46 (0, 0)) (by (with_reducible repeat (first | refine zN ?_ _ | refine zD ?_ | refine zA ?_ _)); exact BK357.out) hb)
              have n5_ := qM (below_step (by repeat (first | (with_reducible first | exact HB.out | apply yA | apply yN | apply yD | refine yS ?_ GE357.out) | exact HB.out)) hb)
              clear HO_5
              clear HO_6
              clear HO_8
              clear BK357
              clear HB
              have HO_5 := n0_
              have HO_6 := n1_
              have HO_8 := n2_
              have HO377 := n3_
              have BK357 := n4_
              have HB := n5_
              clear n0_ n1_ n2_ n3_ n4_ n5_
              clear hb ho44
              refine hK.out _ _ ⟨(zC BK357.out 0).trans rfl, (zC BK357.out 1).trans rfl, (zC BK357.out 2).trans rfl, (zC BK357.out 3).trans rfl, (zC BK357.out 4).trans rfl, (zC BK357.out 5).trans rfl, (zC BK357.out 6).trans rfl⟩ (fun hHeld => ?_)
              clear hK K
              refine norm_ (a' := ?_) ?_ ?_
              rotate_left
              ·show Act.put _ (some 62) _ = _
               simp only [Act.put, List.setIfInBounds_toArray, List.set_cons_zero, List.set_cons_succ, i64_w, i32_w]
               rfl
              refine one_ (i := 0) (N := some 58) #[true, true, false, true, true, false, false] rfl rfl (by kernel_rfl) (by decide) (fun K hK => ?_)
              refine Kd.R_lit_step k46 _ 46 ?hg (N := 58) ?hd (xs := ([] : List (S46))) (inner := []) (ok := fun _ => True) (okp := fun _ => True) ?hr ?hp (fun _ hk => hk) trivial (Below.refl _ _) (Nat.le_refl _) (by simp) ?_; (case hd => rfl); (case hg => rfl); (case hr => first | (go_simp; done) | (go_simp; rfl)); (case hp => exact (Reps.none _ _))
              intro v370 w45 ho46 hb hg_ hnew_
              clear hg_ hnew_
              (first | rw [← Ny369.out] at ho46 | (simp only [Int.reduceToNat] at ho46; rw [← Ny369.out] at ho46))
              have n0_ := qM (Kd.R_elder' (by (with_reducible repeat (first | apply qA | apply qN | apply qD)); exact HO_5.out) (Kd.R_base ho46) hb)
              have n1_ := qM (Kd.R_below (by (with_reducible repeat (first | apply qA | apply qN | apply qD)); exact HO_6.out) hb)
              have n2_ := qM (Kd.R_below (by (with_reducible repeat (first | apply qA | apply qN | apply qD)); exact HO_8.out) hb)
              have n3_ := qM (Kd.R_elder' (by (with_reducible repeat (first | apply qA | apply qN | apply qD)); exact HO377.out) (Kd.R_base ho46) hb)
              have n4_ := qM (Kd.R_lower (Kd.R_newB (Kd.R_new' (Kd.R_new' ho46 (Kd.R_lt (by (with_reducible repeat (first | apply qA | apply qN | apply qD)); exact HO_5.out))) (Kd.R_lt (by (with_reducible repeat (first | apply qA | apply qN | apply qD)); exact HO377.out))) (g := gb357) (o := .cells #[.int .i64 t350, .int .i64 t351, .int .i64 t352, .int .i64 t353, .int .i64 t354, .int .i64 t355, .int .i64 t356] 46 (0, 0)) (by (with_reducible repeat (first | refine zN ?_ _ | refine zD ?_ | refine zA ?_ _)); exact BK357.out)) (below_size (by repeat (first | (with_reducible first | exact HB.out | apply yA | apply yN | apply yD | refine yS ?_ GE357.out) | exact HB.out))))
              have n5_ := qM (blk_below (g := gb357) (o := .cells #[.int .i64 t350, .int .i64 t351, .int .i64 t352, .int .i64 t353, .int .i64 t354, .int .i64 t355, .int .i64 t356] 46 (0, 0)) (by (with_reducible repeat (first | refine zN ?_ _ | refine zD ?_ | refine zA ?_ _)); exact BK357.out) hb)
              have n6_ := qM (below_step (by repeat (first | (with_reducible first | exact HB.out | apply yA | apply yN | apply yD | refine yS ?_ GE357.out) | exact HB.out)) hb)
              clear HO_5
              clear HO_6
              clear HO_8
              clear HO377
              clear BK357
              clear HB
              have HO_5 := n0_
              have HO_6 := n1_
              have HO_8 := n2_
              have HO377 := n3_
              have HO371 := n4_
              have BK357 := n5_
              have HB := n6_
              clear n0_ n1_ n2_ n3_ n4_ n5_ n6_
              clear hb ho46
              refine hK.out _ _ ⟨(zC BK357.out 0).trans rfl, (zC BK357.out 1).trans rfl, (zC BK357.out 2).trans rfl, (zC BK357.out 3).trans rfl, (zC BK357.out 4).trans rfl, (zC BK357.out 5).trans rfl, (zC BK357.out 6).trans rfl⟩ (fun hHeld => ?_)
              clear hK K
              refine norm_ (a' := ?_) ?_ ?_
              rotate_left
              ·show Act.put _ (some 58) _ = _
               simp only [Act.put, List.setIfInBounds_toArray, List.set_cons_zero, List.set_cons_succ, i64_w, i32_w]
               rfl
              refine one_ (i := 2) (N := some 60) #[true, true, true, true, true, false, false] rfl rfl (by kernel_rfl) (by decide) (fun K hK => ?_)
              refine Kd.R_append_rows_step k46 (w0 := w) w.heap.size (by rfl) (.tmp 58) (.tmp 59) 36 46 (.agg #[(.int .i64 0), (.int .i64 0), (.int .i64 0), (.int .i64 0), (.int .i64 0), (.int .i64 0), (.int .i64 0)]) 56 rfl Try.underlying36 info46 rfl (by decide) (by omega) v370 y369 t344 _ _ _ (fun k_ => some k_ ≠ (.slice Ao15 t344.length co15 : Value).ownBlock ∧ some k_ ≠ (v376 : Value).ownBlock ∧ k_ ≠ gb357) (fun _ => False) rfl rfl ?aO ?aR (fun _ _ h => h) (fun _ h => h.elim) ?aF ?aB ?aS ?aL ?_
              (case aR => repeat (first | exact (qR HO_5.out).2.2 | (with_reducible refine Kd.C_alloc ?_ _) | (with_reducible refine Kd.C_drewN ?_ _) | (with_reducible refine Kd.C_drew ?_)))
              (case aB => exact (by repeat (first | (with_reducible first | exact HB.out | apply yA | apply yN | apply yD | refine yS ?_ GE357.out) | exact HB.out)))
              (case aF => exact (fun k_ hk => ⟨Kd.fresh' (Kd.R_lt (by (with_reducible repeat (first | apply qA | apply qN | apply qD)); exact HO_5.out)) k_ hk, Kd.fresh' (Kd.R_lt (by (with_reducible repeat (first | apply qA | apply qN | apply qD)); exact HO377.out)) k_ hk, Kd.freshB (g := gb357) (o := .cells #[.int .i64 t350, .int .i64 t351, .int .i64 t352, .int .i64 t353, .int .i64 t354, .int .i64 t355, .int .i64 t356] 46 (0, 0)) (by (with_reducible repeat (first | refine zN ?_ _ | refine zD ?_ | refine zA ?_ _)); exact BK357.out) k_ hk⟩))
              (case aO => exact (by (with_reducible repeat (first | apply qA | apply qN | apply qD)); exact Kd.R_mono HO371.out (fun _ hk => ⟨hk.1.1.2, ⟨hk.1.2, hk.2⟩⟩)))
              (case aS => exact (below_size (by repeat (first | (with_reducible first | exact HB.out | apply yA | apply yN | apply yD | refine yS ?_ GE357.out) | exact HB.out))))
              (case aL => have := LMc34.out; omega)
              intro v373 w47 ho hb hg hat
              rw [← Ny372.out] at ho
              have n0_ := qM (Kd.R_after (ok := (fun k_ => some k_ ≠ (v376 : Value).ownBlock ∧ k_ ≠ gb357)) (by (with_reducible repeat (first | apply qA | apply qN | apply qD)); exact Kd.R_mono HO_5.out (fun _ hk => ⟨⟨hk.1.2, hk.1.1⟩, hk.2⟩)) hg hat)
              have n1_ := qM (Kd.R_over' (by (with_reducible repeat (first | apply qA | apply qN | apply qD)); exact HO_6.out) (Kd.R_typed (by (with_reducible repeat (first | apply qA | apply qN | apply qD)); exact HO371.out)) (by decide) hg)
              have n2_ := qM (Kd.R_over' (by (with_reducible repeat (first | apply qA | apply qN | apply qD)); exact HO_8.out) (Kd.R_typed (by (with_reducible repeat (first | apply qA | apply qN | apply qD)); exact HO371.out)) (by decide) hg)
              have n3_ := qM (blk_grown (g := gb357) (o := .cells #[.int .i64 t350, .int .i64 t351, .int .i64 t352, .int .i64 t353, .int .i64 t354, .int .i64 t355, .int .i64 t356] 46 (0, 0)) (by (with_reducible repeat (first | refine zN ?_ _ | refine zD ?_ | refine zA ?_ _)); exact BK357.out) hg (Kd.R_away HO371.out (fun _ hk => hk.2)))
              have n4_ := qM (Kd.R_after (ok := (fun k_ => some k_ ≠ (.slice Ao15 t344.length co15 : Value).ownBlock ∧ k_ ≠ gb357)) (by (with_reducible repeat (first | apply qA | apply qN | apply qD)); exact Kd.R_mono HO377.out (fun _ hk => ⟨⟨hk.1.1.2, hk.1.2⟩, hk.2⟩)) hg hat)
              have n5_ := qM (hb)
              have n6_ := qM (ho)
              clear HO_5
              clear HO_6
              clear HO_8
              clear BK357
              clear HO377
              clear HB
              clear HO371
              have HO_5 := n0_
              have HO_6 := n1_
              have HO_8 := n2_
              have BK357 := n3_
              have HO377 := n4_
              have HB := n5_
              have HO374 := n6_
              clear n0_ n1_ n2_ n3_ n4_ n5_ n6_
              clear ho hb hg hat
              refine hK.out _ _ ⟨(zC BK357.out 0).trans rfl, (zC BK357.out 1).trans rfl, (zC BK357.out 2).trans rfl, (zC BK357.out 3).trans rfl, (zC BK357.out 4).trans rfl, (zC BK357.out 5).trans rfl, (zC BK357.out 6).trans rfl⟩ (fun hHeld => ?_)
              clear hK K
              refine norm_ (a' := ?_) ?_ ?_
              rotate_left
              ·show Act.put _ (some 60) _ = _
               simp only [Act.put, List.setIfInBounds_toArray, List.set_cons_zero, List.set_cons_succ, i64_w, i32_w]
               rfl
              exact norm_ (by simp only [putAll, Act.put, List.setIfInBounds_toArray, List.set_cons_zero, List.set_cons_succ]) (hCont (v370, v373, v376) _ ⟨hHeld, (by (with_reducible repeat (first | apply qA | apply qN | apply qD)); exact Kd.R_mono HO374.out (fun _ hk => ⟨hk.2.1, ⟨hk.1, hk.2.2⟩⟩)), (by (with_reducible repeat (first | apply qA | apply qN | apply qD)); exact Kd.R_mono HO377.out (fun _ hk => ⟨hk.2, ⟨hk.1.1, hk.1.2⟩⟩)), (by (with_reducible repeat (first | apply qA | apply qN | apply qD)); exact Kd.R_mono HO_5.out (fun _ hk => ⟨hk.2, ⟨hk.1.1, hk.1.2⟩⟩)), (by (with_reducible repeat (first | apply qA | apply qN | apply qD)); exact HO_6.out), (by (with_reducible repeat (first | apply qA | apply qN | apply qD)); exact HO_8.out), (by (with_reducible repeat (first | refine zN ?_ _ | refine zD ?_ | refine zA ?_ _)); exact BK357.out), (by repeat (first | (with_reducible first | exact HB.out | apply yA | apply yN | apply yD | refine yS ?_ GE357.out) | exact HB.out))⟩)
            rintro ⟨v370, v373, v376⟩ w48 ⟨hS_, h0_, h1_, h2_, h3_, h4_, h5_, h6_⟩
            have n0_ : Aside0 (Kd.R k46 46 w48 w.heap.size (fun k_ => some k_ ≠ (v376 : Value).ownBlock ∧ some k_ ≠ (.slice Ao15 t344.length co15 : Value).ownBlock ∧ k_ ≠ gb357) v373 y372) := ⟨h0_⟩
            have n1_ : Aside0 (Kd.R k46 46 w48 w.heap.size (fun k_ => some k_ ≠ (v373 : Value).ownBlock ∧ some k_ ≠ (.slice Ao15 t344.length co15 : Value).ownBlock ∧ k_ ≠ gb357) v376 y375) := ⟨h1_⟩
            have n2_ : Aside0 (Kd.R k46 46 w48 w.heap.size (fun k_ => some k_ ≠ (v373 : Value).ownBlock ∧ some k_ ≠ (v376 : Value).ownBlock ∧ k_ ≠ gb357) (.slice Ao15 t344.length co15) t344) := ⟨h2_⟩
            have n3_ : Aside0 (Kd.R (Kd.int .u8) 5 w48 w.heap.size (fun k_ => some k_ ≠ (v360 : Value).ownBlock) (.slice Ao16 t345.length co16) t345) := ⟨h3_⟩
            have n4_ : Aside0 (Kd.R (Kd.int .u8) 5 w48 w.heap.size (fun k_ => some k_ ≠ (.slice Ao16 t345.length co16 : Value).ownBlock) v360 t358) := ⟨h4_⟩
            have n5_ : Aside0 (w48.heap[gb357]? = some (.cells #[.int .i64 t350, .int .i64 t351, .int .i64 t352, .int .i64 t353, .int .i64 t354, .int .i64 t355, .int .i64 t356] 46 (0, 0))) := ⟨h5_⟩
            have n6_ : Aside0 (Below w.heap.size w w48) := ⟨h6_⟩
            clear HO_5
            clear HO_6
            clear HO_8
            clear BK357
            clear HB
            clear h0_ h1_ h2_ h3_ h4_ h5_ h6_
            have HO374 := n0_
            have HO377 := n1_
            have HO_5 := n2_
            have HO_6 := n3_
            have HO_8 := n4_
            have BK357 := n5_
            have HB := n6_
            clear n0_ n1_ n2_ n3_ n4_ n5_ n6_
            have hHeld : w48.cell? ⟨gb357, 0, none⟩ = some (.int .i64 t350) ∧ w48.cell? ⟨gb357, 1, none⟩ = some (.int .i64 t351) ∧ w48.cell? ⟨gb357, 2, none⟩ = some (.int .i64 t352) ∧ w48.cell? ⟨gb357, 3, none⟩ = some (.int .i64 t353) ∧ w48.cell? ⟨gb357, 4, none⟩ = some (.int .i64 t354) ∧ w48.cell? ⟨gb357, 5, none⟩ = some (.int .i64 t355) ∧ w48.cell? ⟨gb357, 6, none⟩ = some (.int .i64 t356) := hS_
            obtain ⟨Ao50, co50, eo50⟩ := Kd.R_slice HO377.out
            (first | subst eo50 | (injection eo50 with f1_ f2_ f3_; have f4_ := f1_.symm; have f5_ := f3_.symm; clear f1_ f2_ f3_; subst f4_; subst f5_))
            refine norm_ (a' := ?_) ?_ ?_
            rotate_left
            ·simp only [putAll, Act.put, List.setIfInBounds_toArray, List.set_cons_zero, List.set_cons_succ]
             rfl
            refine one_ (i := 5) (N := some 63) #[true, true, true, true, true, true, false] rfl rfl (by kernel_rfl) (by decide) (fun K hK => ?_)
            refine Kd.R_append_rows_step k46 (w0 := w) w.heap.size (by rfl) (.tmp 60) (.tmp 62) 36 46 (.agg #[(.int .i64 0), (.int .i64 0), (.int .i64 0), (.int .i64 0), (.int .i64 0), (.int .i64 0), (.int .i64 0)]) 56 rfl Try.underlying36 info46 rfl (by decide) (by omega) v373 y372 y375 _ _ _ (fun k_ => some k_ ≠ (.slice Ao15 t344.length co15 : Value).ownBlock ∧ some k_ ≠ (.slice Ao50 y375.length co50 : Value).ownBlock ∧ k_ ≠ gb357) (fun _ => False) rfl rfl ?aO ?aR (fun _ _ h => h) (fun _ h => h.elim) ?aF ?aB ?aS ?aL ?_
            (case aR => repeat (first | exact (qR HO377.out).2.2 | (with_reducible refine Kd.C_alloc ?_ _) | (with_reducible refine Kd.C_drewN ?_ _) | (with_reducible refine Kd.C_drew ?_)))
            (case aB => exact (by repeat (first | (with_reducible first | exact HB.out | apply yA | apply yN | apply yD | refine yS ?_ GE357.out) | exact HB.out)))
            (case aF => exact (fun k_ hk => ⟨Kd.fresh' (Kd.R_lt (by (with_reducible repeat (first | apply qA | apply qN | apply qD)); exact HO_5.out)) k_ hk, Kd.fresh' (Kd.R_lt (by (with_reducible repeat (first | apply qA | apply qN | apply qD)); exact HO377.out)) k_ hk, Kd.freshB (g := gb357) (o := .cells #[.int .i64 t350, .int .i64 t351, .int .i64 t352, .int .i64 t353, .int .i64 t354, .int .i64 t355, .int .i64 t356] 46 (0, 0)) (by (with_reducible repeat (first | refine zN ?_ _ | refine zD ?_ | refine zA ?_ _)); exact BK357.out) k_ hk⟩))
            (case aO => exact (by (with_reducible repeat (first | apply qA | apply qN | apply qD)); exact Kd.R_mono HO374.out (fun _ hk => ⟨hk.2.1, ⟨hk.1, hk.2.2⟩⟩)))
            (case aS => exact (below_size (by repeat (first | (with_reducible first | exact HB.out | apply yA | apply yN | apply yD | refine yS ?_ GE357.out) | exact HB.out))))
            (case aL => have := LMc35.out; omega)
            intro v379 w49 ho hb hg hat
            rw [← Ny378.out] at ho
            have n0_ := qM (Kd.R_after (ok := (fun k_ => some k_ ≠ (.slice Ao50 y375.length co50 : Value).ownBlock ∧ k_ ≠ gb357)) (by (with_reducible repeat (first | apply qA | apply qN | apply qD)); exact Kd.R_mono HO_5.out (fun _ hk => ⟨⟨hk.2.1, hk.2.2⟩, hk.1⟩)) hg hat)
            have n1_ := qM (Kd.R_over' (by (with_reducible repeat (first | apply qA | apply qN | apply qD)); exact HO_6.out) (Kd.R_typed (by (with_reducible repeat (first | apply qA | apply qN | apply qD)); exact HO374.out)) (by decide) hg)
            have n2_ := qM (Kd.R_over' (by (with_reducible repeat (first | apply qA | apply qN | apply qD)); exact HO_8.out) (Kd.R_typed (by (with_reducible repeat (first | apply qA | apply qN | apply qD)); exact HO374.out)) (by decide) hg)
            have n3_ := qM (blk_grown (g := gb357) (o := .cells #[.int .i64 t350, .int .i64 t351, .int .i64 t352, .int .i64 t353, .int .i64 t354, .int .i64 t355, .int .i64 t356] 46 (0, 0)) (by (with_reducible repeat (first | refine zN ?_ _ | refine zD ?_ | refine zA ?_ _)); exact BK357.out) hg (Kd.R_away HO374.out (fun _ hk => hk.2.2)))
            have n4_ := qM (Kd.R_after (ok := (fun k_ => some k_ ≠ (.slice Ao15 t344.length co15 : Value).ownBlock ∧ k_ ≠ gb357)) (by (with_reducible repeat (first | apply qA | apply qN | apply qD)); exact Kd.R_mono HO377.out (fun _ hk => ⟨⟨hk.2.1, hk.2.2⟩, hk.1⟩)) hg hat)
            have n5_ := qM (hb)
            have n6_ := qM (ho)
            clear HO_5
            clear HO_6
            clear HO_8
            clear BK357
            clear HO377
            clear HB
            clear HO374
            have HO_5 := n0_
            have HO_6 := n1_
            have HO_8 := n2_
            have BK357 := n3_
            have HO377 := n4_
            have HB := n5_
            have HO380 := n6_
            clear n0_ n1_ n2_ n3_ n4_ n5_ n6_
            clear ho hb hg hat
            refine hK.out _ _ ⟨(zC BK357.out 0).trans rfl, (zC BK357.out 1).trans rfl, (zC BK357.out 2).trans rfl, (zC BK357.out 3).trans rfl, (zC BK357.out 4).trans rfl, (zC BK357.out 5).trans rfl, (zC BK357.out 6).trans rfl⟩ (fun hHeld => ?_)
            clear hK K
            refine norm_ (a' := ?_) ?_ ?_
            rotate_left
            ·show Act.put _ (some 63) _ = _
             simp only [Act.put, List.setIfInBounds_toArray, List.set_cons_zero, List.set_cons_succ, i64_w, i32_w]
             rfl
            refine pure_ (i := 6) (N := some 12) (v := ?_) (a' := ?_) #[true, true, true, true, true, true, true] rfl rfl (by kernel_rfl) (fun _ _ _ h => h) (Or.inl ⟨by rfl, ?_⟩) ?_ ?_
            rotate_left
            ·intro w'
             go_simp
             with_reducible rfl
            rotate_left
            ·simp only [Act.put, List.setIfInBounds_toArray, List.set_cons_zero, List.set_cons_succ, i64_w, i32_w]
             rfl
            refine done_ (by kernel_rfl) ?_
            obtain ⟨Ao51, co51, eo51⟩ := Kd.R_slice HO380.out
            subst eo51
            try go_wp2_with (first | ((with_reducible refine gate_callee (f := 24) rfl ?_); refine goesL_ (some 67) rfl rfl Try.func24 (by kernel_rfl) rfl #[.slice Ao51 y378.length co51, .slice Ao16 t345.length co16] rfl (by (try simp only [List.map_toArray, List.map_cons, List.map_nil]); first | done | rfl | (simp only [List.length_drop, List.length_take]; rfl)) ?_; (with_reducible refine (impl_GrdDo.calls _ _ y378 _ _ t345 t381 true _ ?side1 ?side2 ?side3 ?side4 A36.out).mono ?_); (case side1 => repeat (first | exact (qR HO380.out).2.2 | (with_reducible refine Kd.C_alloc ?_ _) | (with_reducible refine Kd.C_drewN ?_ _) | (with_reducible refine Kd.C_drew ?_))); (case side2 => exact (qR HO380.out).2.1); (case side3 => repeat (first | exact (qR HO_6.out).2.2 | (with_reducible refine Kd.C_alloc ?_ _) | (with_reducible refine Kd.C_drewN ?_ _) | (with_reducible refine Kd.C_drew ?_))); (case side4 => exact (qR HO_6.out).2.1); rintro e w52 ⟨v383, rfl, ho0, hb⟩; refine ⟨_, rfl, ?_⟩; have n0_ := qM (Kd.R_below (by (with_reducible repeat (first | apply qA | apply qN | apply qD)); exact HO_5.out) hb); have n1_ := qM (Kd.R_elder' (by (with_reducible repeat (first | apply qA | apply qN | apply qD)); exact HO_6.out) (Kd.R_base ho0) hb); have n2_ := qM (Kd.R_elder' (by (with_reducible repeat (first | apply qA | apply qN | apply qD)); exact HO_8.out) (Kd.R_base ho0) hb); have n3_ := qM (Kd.R_below (by (with_reducible repeat (first | apply qA | apply qN | apply qD)); exact HO377.out) hb); have n4_ := qM (Kd.R_below (by (with_reducible repeat (first | apply qA | apply qN | apply qD)); exact HO380.out) hb); have n5_ := qM (Kd.R_lower (Kd.R_new' (Kd.R_new' ho0 (Kd.R_lt (by (with_reducible repeat (first | apply qA | apply qN | apply qD)); exact HO_6.out))) (Kd.R_lt (by (with_reducible repeat (first | apply qA | apply qN | apply qD)); exact HO_8.out))) (below_size (by repeat (first | (with_reducible first | exact HB.out | apply yA | apply yN | apply yD | refine yS ?_ GE357.out) | exact HB.out)))); have n6_ := qM (blk_below (g := gb357) (o := .cells #[.int .i64 t350, .int .i64 t351, .int .i64 t352, .int .i64 t353, .int .i64 t354, .int .i64 t355, .int .i64 t356] 46 (0, 0)) (by (with_reducible repeat (first | refine zN ?_ _ | refine zD ?_ | refine zA ?_ _)); exact BK357.out) hb); have n7_ := qM (below_step (by repeat (first | (with_reducible first | exact HB.out | apply yA | apply yN | apply yD | refine yS ?_ GE357.out) | exact HB.out)) hb); clear HO_5; clear HO_6; clear HO_8; clear HO377; clear HO380; clear BK357; clear HB; have HO_5 := n0_; have HO_6 := n1_; have HO_8 := n2_; have HO377 := n3_; have HO380 := n4_; have HO384 := n5_; have BK357 := n6_; have HB := n7_; clear n0_ n1_ n2_ n3_ n4_ n5_ n6_ n7_; (try clear hb); (try clear hb2); (try clear hk); (try clear hi); (try clear ho0)) | ((with_reducible refine gate_callee (f := 28) rfl ?_); refine goesL_ (some 71) rfl rfl Try.func28 (by kernel_rfl) rfl #[.slice Ao51 y378.length co51] rfl (by (try simp only [List.map_toArray, List.map_cons, List.map_nil]); first | done | rfl | (simp only [List.length_drop, List.length_take]; rfl)) ?_; (with_reducible refine (spec_GrdOk.calls kj9 _ _ y378 true _ ?side1 ?side2 A37.out).mono ?_); (case side1 => repeat (first | exact (qR HO380.out).2.2 | (with_reducible refine Kd.C_alloc ?_ _) | (with_reducible refine Kd.C_drewN ?_ _) | (with_reducible refine Kd.C_drew ?_))); (case side2 => exact (qR HO380.out).2.1); rintro e w53 ⟨rfl, hb⟩; refine ⟨_, rfl, ?_⟩; have n0_ := qM (Kd.R_below (by (with_reducible repeat (first | apply qA | apply qN | apply qD)); exact HO_5.out) hb); have n1_ := qM (Kd.R_below (by (with_reducible repeat (first | apply qA | apply qN | apply qD)); exact HO_6.out) hb); have n2_ := qM (Kd.R_below (by (with_reducible repeat (first | apply qA | apply qN | apply qD)); exact HO_8.out) hb); have n3_ := qM (Kd.R_below (by (with_reducible repeat (first | apply qA | apply qN | apply qD)); exact HO377.out) hb); have n4_ := qM (Kd.R_below (by (with_reducible repeat (first | apply qA | apply qN | apply qD)); exact HO380.out) hb); have n5_ := qM (Kd.R_below (by (with_reducible repeat (first | apply qA | apply qN | apply qD)); exact HO384.out) hb); have n6_ := qM (blk_below (g := gb357) (o := .cells #[.int .i64 t350, .int .i64 t351, .int .i64 t352, .int .i64 t353, .int .i64 t354, .int .i64 t355, .int .i64 t356] 46 (0, 0)) (by (with_reducible repeat (first | refine zN ?_ _ | refine zD ?_ | refine zA ?_ _)); exact BK357.out) hb); have n7_ := qM (below_step (by repeat (first | (with_reducible first | exact HB.out | apply yA | apply yN | apply yD | refine yS ?_ GE357.out) | exact HB.out)) hb); clear HO_5; clear HO_6; clear HO_8; clear HO377; clear HO380; clear HO384; clear BK357; clear HB; have HO_5 := n0_; have HO_6 := n1_; have HO_8 := n2_; have HO377 := n3_; have HO380 := n4_; have HO384 := n5_; have BK357 := n6_; have HB := n7_; clear n0_ n1_ n2_ n3_ n4_ n5_ n6_ n7_; (try clear hb); (try clear hb2); (try clear hk); (try clear hi); obtain ⟨Ao54, co54, eo54⟩ := Kd.R_slice HO384.out; subst eo54; obtain ⟨Ao55, co55, eo55⟩ := Kd.R_slice HO_8.out; subst eo55) | (go_at_call 20; (with_reducible refine (laws_caBytes.calls _ _ t381 _ _ t358 t386 _ ?side1 ?side2 ?side3 ?side4 A41.out).mono ?_); (case side1 => repeat (first | exact (qR HO384.out).2.2 | (with_reducible refine Kd.C_alloc ?_ _) | (with_reducible refine Kd.C_drewN ?_ _) | (with_reducible refine Kd.C_drew ?_))); (case side2 => exact (qR HO384.out).2.1); (case side3 => repeat (first | exact (qR HO_8.out).2.2 | (with_reducible refine Kd.C_alloc ?_ _) | (with_reducible refine Kd.C_drewN ?_ _) | (with_reducible refine Kd.C_drew ?_))); (case side4 => exact (qR HO_8.out).2.1); rintro e w' ⟨rfl, ⟨nd, rfl⟩⟩))
            go_ret
            exact ⟨by first | rfl | (simp [errW_none, errW_some] <;> rfl) | (simp [*, errW_none, errW_some] <;> rfl), by repeat (first | (with_reducible first | exact HB.out | apply yA | apply yN | apply yD | refine yS ?_ GE357.out) | exact HB.out)⟩
           ·replace c40 := Bool.eq_false_iff.mpr c40
            subst c40
            have H1 : (some false) = some r := by rw [if_neg (show ¬ (false = true) by decide)] at H; exact H
            clear H
            have H := H1
            clear H1
            exact absurd ((Option.some.inj H).trans hr_) (by decide)
          ·replace c39 := Bool.eq_false_iff.mpr c39
           subst c39
           have H1 : (some true) = some r := by rw [if_neg (show ¬ (false = true) by decide)] at H; exact H
           clear H
           have H := H1
           clear H1
           obtain rfl := Option.some.inj H
           try go_wp2
           have n0_ := qM (qD HO_5.out)
           have n1_ := qM (qD HO_6.out)
           have n2_ := qM (qD HO_8.out)
           have n3_ := qM (zD BK357.out)
           have n4_ := qM (yD HB.out)
           clear HO_5
           clear HO_6
           clear HO_8
           clear BK357
           clear HB
           have HO_5 := n0_
           have HO_6 := n1_
           have HO_8 := n2_
           have BK357 := n3_
           have HB := n4_
           clear n0_ n1_ n2_ n3_ n4_
           refine start_ (n := 7) (S := fun w' => w'.cell? ⟨gb357, 0, none⟩ = some (.int .i64 t350) ∧ w'.cell? ⟨gb357, 1, none⟩ = some (.int .i64 t351) ∧ w'.cell? ⟨gb357, 2, none⟩ = some (.int .i64 t352) ∧ w'.cell? ⟨gb357, 3, none⟩ = some (.int .i64 t353) ∧ w'.cell? ⟨gb357, 4, none⟩ = some (.int .i64 t354) ∧ w'.cell? ⟨gb357, 5, none⟩ = some (.int .i64 t355) ∧ w'.cell? ⟨gb357, 6, none⟩ = some (.int .i64 t356)) (ds := []) #[false, false, false, false, false, false, false] (by kernel_rfl) rfl rfl ⟨(zC BK357.out 0).trans rfl, (zC BK357.out 1).trans rfl, (zC BK357.out 2).trans rfl, (zC BK357.out 3).trans rfl, (zC BK357.out 4).trans rfl, (zC BK357.out 5).trans rfl, (zC BK357.out 6).trans rfl⟩ (fun hHeld => ?_)
           generalize wc.drew = w68 at HO_5 HO_6 HO_8 BK357 HB hHeld ⊢
           refine pure_ (i := 1) (N := some 59) (v := ?_) (a' := ?_) #[false, true, false, false, false, false, false] rfl rfl (by kernel_rfl) (fun _ _ _ h => h) (Or.inl ⟨by rfl, ?_⟩) ?_ ?_
           rotate_left
           ·intro w'
            go_simp
            with_reducible rfl
           rotate_left
           ·simp only [Act.put, List.setIfInBounds_toArray, List.set_cons_zero, List.set_cons_succ, i64_w, i32_w]
            rfl
           refine take_ (i := 3) (N := some 61) (v := ?_) (a' := ?_) #[false, true, false, true, false, false, false] rfl rfl (by kernel_rfl) (fun _ _ _ h => h) (Or.inl ⟨by rfl, ?_⟩) hHeld ?_ ?_
           rotate_left
           ·rintro w' ⟨s0, s1, s2, s3, s4, s5, s6⟩
            go_simp
            with_reducible rfl
           rotate_left
           ·simp only [Act.put, List.setIfInBounds_toArray, List.set_cons_zero, List.set_cons_succ, i64_w, i32_w]
            rfl
           refine join_ (σ := Value × Value × Value) 2 #[true, true, true, true, true, false, false] (fun s_ => [(58, s_.1), (60, s_.2.1), (62, s_.2.2)]) (fun s_ w' => (w'.cell? ⟨gb357, 0, none⟩ = some (.int .i64 t350) ∧ w'.cell? ⟨gb357, 1, none⟩ = some (.int .i64 t351) ∧ w'.cell? ⟨gb357, 2, none⟩ = some (.int .i64 t352) ∧ w'.cell? ⟨gb357, 3, none⟩ = some (.int .i64 t353) ∧ w'.cell? ⟨gb357, 4, none⟩ = some (.int .i64 t354) ∧ w'.cell? ⟨gb357, 5, none⟩ = some (.int .i64 t355) ∧ w'.cell? ⟨gb357, 6, none⟩ = some (.int .i64 t356)) ∧ (Kd.R k46 46 w' w.heap.size (fun k_ => some k_ ≠ (s_.2.2 : Value).ownBlock ∧ some k_ ≠ (.slice Ao15 t344.length co15 : Value).ownBlock ∧ k_ ≠ gb357) s_.2.1 y372) ∧ (Kd.R k46 46 w' w.heap.size (fun k_ => some k_ ≠ (s_.2.1 : Value).ownBlock ∧ some k_ ≠ (.slice Ao15 t344.length co15 : Value).ownBlock ∧ k_ ≠ gb357) s_.2.2 y375) ∧ (Kd.R k46 46 w' w.heap.size (fun k_ => some k_ ≠ (s_.2.1 : Value).ownBlock ∧ some k_ ≠ (s_.2.2 : Value).ownBlock ∧ k_ ≠ gb357) (.slice Ao15 t344.length co15) t344) ∧ (Kd.R (Kd.int .u8) 5 w' w.heap.size (fun k_ => some k_ ≠ (v360 : Value).ownBlock) (.slice Ao16 t345.length co16) t345) ∧ (Kd.R (Kd.int .u8) 5 w' w.heap.size (fun k_ => some k_ ≠ (.slice Ao16 t345.length co16 : Value).ownBlock) v360 t358) ∧ (w'.heap[gb357]? = some (.cells #[.int .i64 t350, .int .i64 t351, .int .i64 t352, .int .i64 t353, .int .i64 t354, .int .i64 t355, .int .i64 t356] 46 (0, 0))) ∧ (Below w.heap.size w w')) ?_ ?_
           rotate_left
           ·intro hCont
            refine two_ (i := 0) (j := 4) (Ni := some 58) (Nj := some 62) #[true, true, false, true, false, false, false] #[false, true, false, true, true, false, false] rfl rfl rfl rfl (by kernel_rfl) (by decide) (by decide) (fun K hK => ?_) (fun K hK => ?_)
            ·skip
             refine Kd.R_lit_step k46 _ 46 ?hg (N := 58) ?hd (xs := ([] : List (S46))) (inner := []) (ok := fun _ => True) (okp := fun _ => True) ?hr ?hp (fun _ hk => hk) trivial (Below.refl _ _) (Nat.le_refl _) (by simp) ?_; (case hd => rfl); (case hg => rfl); (case hr => first | (go_simp; done) | (go_simp; rfl)); (case hp => exact (Reps.none _ _))
             intro v370 w69 ho70 hb hg_ hnew_
             clear hg_ hnew_
             (first | rw [← Ny369.out] at ho70 | (simp only [Int.reduceToNat] at ho70; rw [← Ny369.out] at ho70))
             have n0_ := qM (Kd.R_elder' (by (with_reducible repeat (first | apply qA | apply qN | apply qD)); exact HO_5.out) (Kd.R_base ho70) hb)
             have n1_ := qM (Kd.R_below (by (with_reducible repeat (first | apply qA | apply qN | apply qD)); exact HO_6.out) hb)
             have n2_ := qM (Kd.R_below (by (with_reducible repeat (first | apply qA | apply qN | apply qD)); exact HO_8.out) hb)
             have n3_ := qM (Kd.R_lower (Kd.R_newB (Kd.R_new' ho70 (Kd.R_lt (by (with_reducible repeat (first | apply qA | apply qN | apply qD)); exact HO_5.out))) (g := gb357) (o := .cells #[.int .i64 t350, .int .i64 t351, .int .i64 t352, .int .i64 t353, .int .i64 t354, .int .i64 t355, .int .i64 t356] 46 (0, 0)) (by (with_reducible repeat (first | refine zN ?_ _ | refine zD ?_ | refine zA ?_ _)); exact BK357.out)) (below_size (by repeat (first | (with_reducible first | exact HB.out | apply yA | apply yN | apply yD | refine yS ?_ GE357.out) | exact HB.out))))
             have n4_ := qM (blk_below (g := gb357) (o := .cells #[.int .i64 t350, .int .i64 t351, .int .i64 t352, .int .i64 t353, .int .i64 t354, .int .i64 t355, .int .i64 t356] 46 (0, 0)) (by (with_reducible repeat (first | refine zN ?_ _ | refine zD ?_ | refine zA ?_ _)); exact BK357.out) hb)
             have n5_ := qM (below_step (by repeat (first | (with_reducible first | exact HB.out | apply yA | apply yN | apply yD | refine yS ?_ GE357.out) | exact HB.out)) hb)
             clear HO_5
             clear HO_6
             clear HO_8
             clear BK357
             clear HB
             have HO_5 := n0_
             have HO_6 := n1_
             have HO_8 := n2_
             have HO371 := n3_
             have BK357 := n4_
             have HB := n5_
             clear n0_ n1_ n2_ n3_ n4_ n5_
             clear hb ho70
             refine hK.out _ _ ⟨(zC BK357.out 0).trans rfl, (zC BK357.out 1).trans rfl, (zC BK357.out 2).trans rfl, (zC BK357.out 3).trans rfl, (zC BK357.out 4).trans rfl, (zC BK357.out 5).trans rfl, (zC BK357.out 6).trans rfl⟩ (fun hHeld => ?_)
             clear hK K
             refine norm_ (a' := ?_) ?_ ?_
             rotate_left
             ·show Act.put _ (some 58) _ = _
              simp only [Act.put, List.setIfInBounds_toArray, List.set_cons_zero, List.set_cons_succ, i64_w, i32_w]
              rfl
             refine two_ (i := 2) (j := 4) (Ni := some 60) (Nj := some 62) #[true, true, true, true, false, false, false] #[true, true, false, true, true, false, false] rfl rfl rfl rfl (by kernel_rfl) (by decide) (by decide) (fun K hK => ?_) (fun K hK => ?_)
             ·skip
              refine Kd.R_append_rows_step k46 (w0 := w) w.heap.size (by rfl) (.tmp 58) (.tmp 59) 36 46 (.agg #[(.int .i64 0), (.int .i64 0), (.int .i64 0), (.int .i64 0), (.int .i64 0), (.int .i64 0), (.int .i64 0)]) 56 rfl Try.underlying36 info46 rfl (by decide) (by omega) v370 y369 t344 _ _ _ (fun k_ => some k_ ≠ (.slice Ao15 t344.length co15 : Value).ownBlock ∧ k_ ≠ gb357) (fun _ => False) rfl rfl ?aO ?aR (fun _ _ h => h) (fun _ h => h.elim) ?aF ?aB ?aS ?aL ?_
              (case aR => repeat (first | exact (qR HO_5.out).2.2 | (with_reducible refine Kd.C_alloc ?_ _) | (with_reducible refine Kd.C_drewN ?_ _) | (with_reducible refine Kd.C_drew ?_)))
              (case aB => exact (by repeat (first | (with_reducible first | exact HB.out | apply yA | apply yN | apply yD | refine yS ?_ GE357.out) | exact HB.out)))
              (case aF => exact (fun k_ hk => ⟨Kd.fresh' (Kd.R_lt (by (with_reducible repeat (first | apply qA | apply qN | apply qD)); exact HO_5.out)) k_ hk, Kd.freshB (g := gb357) (o := .cells #[.int .i64 t350, .int .i64 t351, .int .i64 t352, .int .i64 t353, .int .i64 t354, .int .i64 t355, .int .i64 t356] 46 (0, 0)) (by (with_reducible repeat (first | refine zN ?_ _ | refine zD ?_ | refine zA ?_ _)); exact BK357.out) k_ hk⟩))
              (case aO => exact (by (with_reducible repeat (first | apply qA | apply qN | apply qD)); exact Kd.R_mono HO371.out (fun _ hk => ⟨hk.1.2, hk.2⟩)))
              (case aS => exact (below_size (by repeat (first | (with_reducible first | exact HB.out | apply yA | apply yN | apply yD | refine yS ?_ GE357.out) | exact HB.out))))
              (case aL => have := LMc34.out; omega)
              intro v373 w71 ho hb hg hat
              rw [← Ny372.out] at ho
              have n0_ := qM (Kd.R_after (ok := (fun k_ => k_ ≠ gb357)) (by (with_reducible repeat (first | apply qA | apply qN | apply qD)); exact HO_5.out) hg hat)
              have n1_ := qM (Kd.R_over' (by (with_reducible repeat (first | apply qA | apply qN | apply qD)); exact HO_6.out) (Kd.R_typed (by (with_reducible repeat (first | apply qA | apply qN | apply qD)); exact HO371.out)) (by decide) hg)
              have n2_ := qM (Kd.R_over' (by (with_reducible repeat (first | apply qA | apply qN | apply qD)); exact HO_8.out) (Kd.R_typed (by (with_reducible repeat (first | apply qA | apply qN | apply qD)); exact HO371.out)) (by decide) hg)
              have n3_ := qM (blk_grown (g := gb357) (o := .cells #[.int .i64 t350, .int .i64 t351, .int .i64 t352, .int .i64 t353, .int .i64 t354, .int .i64 t355, .int .i64 t356] 46 (0, 0)) (by (with_reducible repeat (first | refine zN ?_ _ | refine zD ?_ | refine zA ?_ _)); exact BK357.out) hg (Kd.R_away HO371.out (fun _ hk => hk.2)))
              have n4_ := qM (hb)
              have n5_ := qM (ho)
              clear HO_5
              clear HO_6
              clear HO_8
              clear BK357
              clear HB
              clear HO371
              have HO_5 := n0_
              have HO_6 := n1_
              have HO_8 := n2_
              have BK357 := n3_
              have HB := n4_
              have HO374 := n5_
              clear n0_ n1_ n2_ n3_ n4_ n5_
              clear ho hb hg hat
              refine hK.out _ _ ⟨(zC BK357.out 0).trans rfl, (zC BK357.out 1).trans rfl, (zC BK357.out 2).trans rfl, (zC BK357.out 3).trans rfl, (zC BK357.out 4).trans rfl, (zC BK357.out 5).trans rfl, (zC BK357.out 6).trans rfl⟩ (fun hHeld => ?_)
              clear hK K
              refine norm_ (a' := ?_) ?_ ?_
              rotate_left
              ·show Act.put _ (some 60) _ = _
               simp only [Act.put, List.setIfInBounds_toArray, List.set_cons_zero, List.set_cons_succ, i64_w, i32_w]
               rfl
              refine one_ (i := 4) (N := some 62) #[true, true, true, true, true, false, false] rfl rfl (by kernel_rfl) (by decide) (fun K hK => ?_)
              refine Kd.R_lit_step k46 _ 46 ?hg (N := 62) ?hd (xs := ([(⟨t350, t351, t352, t353, t354, t355, t356⟩ : S46)] : List (S46))) (inner := [.int .i64 t350, .int .i64 t351, .int .i64 t352, .int .i64 t353, .int .i64 t354, .int .i64 t355, .int .i64 t356]) (ok := fun _ => True) (okp := fun _ => True) ?hr ?hp (fun _ hk => hk) trivial (Below.refl _ _) (Nat.le_refl _) (by simp) ?_; (case hd => rfl); (case hg => rfl); (case hr => first | (go_simp; done) | (go_simp; rfl)); (case hp => exact (Reps.c7 (show Kd.M k46 _ _ _ (⟨t350, t351, t352, t353, t354, t355, t356⟩ : S46) [.int .i64 t350, .int .i64 t351, .int .i64 t352, .int .i64 t353, .int .i64 t354, .int .i64 t355, .int .i64 t356] from (k46_mkM _ _ _ (⟨t350, t351, t352, t353, t354, t355, t356⟩ : S46) )) (Reps.none _ _)))
              intro v376 w72 ho73 hb hg_ hnew_
              clear hg_ hnew_
              (first | rw [← Ny375.out] at ho73 | (simp only [Int.reduceToNat] at ho73; rw [← Ny375.out] at ho73))
              have n0_ := qM (Kd.R_elder' (by (with_reducible repeat (first | apply qA | apply qN | apply qD)); exact HO_5.out) (Kd.R_base ho73) hb)
              have n1_ := qM (Kd.R_below (by (with_reducible repeat (first | apply qA | apply qN | apply qD)); exact HO_6.out) hb)
              have n2_ := qM (Kd.R_below (by (with_reducible repeat (first | apply qA | apply qN | apply qD)); exact HO_8.out) hb)
              have n3_ := qM (Kd.R_elder' (by (with_reducible repeat (first | apply qA | apply qN | apply qD)); exact HO374.out) (Kd.R_base ho73) hb)
              have n4_ := qM (Kd.R_lower (Kd.R_newB (Kd.R_new' (Kd.R_new' ho73 (Kd.R_lt (by (with_reducible repeat (first | apply qA | apply qN | apply qD)); exact HO_5.out))) (Kd.R_lt (by (with_reducible repeat (first | apply qA | apply qN | apply qD)); exact HO374.out))) (g := gb357) (o := .cells #[.int .i64 t350, .int .i64 t351, .int .i64 t352, .int .i64 t353, .int .i64 t354, .int .i64 t355, .int .i64 t356] 46 (0, 0)) (by (with_reducible repeat (first | refine zN ?_ _ | refine zD ?_ | refine zA ?_ _)); exact BK357.out)) (below_size (by repeat (first | (with_reducible first | exact HB.out | apply yA | apply yN | apply yD | refine yS ?_ GE357.out) | exact HB.out))))
              have n5_ := qM (blk_below (g := gb357) (o := .cells #[.int .i64 t350, .int .i64 t351, .int .i64 t352, .int .i64 t353, .int .i64 t354, .int .i64 t355, .int .i64 t356] 46 (0, 0)) (by (with_reducible repeat (first | refine zN ?_ _ | refine zD ?_ | refine zA ?_ _)); exact BK357.out) hb)
              have n6_ := qM (below_step (by repeat (first | (with_reducible first | exact HB.out | apply yA | apply yN | apply yD | refine yS ?_ GE357.out) | exact HB.out)) hb)
              clear HO_5
              clear HO_6
              clear HO_8
              clear HO374
              clear BK357
              clear HB
              have HO_5 := n0_
              have HO_6 := n1_
              have HO_8 := n2_
              have HO374 := n3_
              have HO377 := n4_
              have BK357 := n5_
              have HB := n6_
              clear n0_ n1_ n2_ n3_ n4_ n5_ n6_
              clear hb ho73
              refine hK.out _ _ ⟨(zC BK357.out 0).trans rfl, (zC BK357.out 1).trans rfl, (zC BK357.out 2).trans rfl, (zC BK357.out 3).trans rfl, (zC BK357.out 4).trans rfl, (zC BK357.out 5).trans rfl, (zC BK357.out 6).trans rfl⟩ (fun hHeld => ?_)
              clear hK K
              refine norm_ (a' := ?_) ?_ ?_
              rotate_left
              ·show Act.put _ (some 62) _ = _
               simp only [Act.put, List.setIfInBounds_toArray, List.set_cons_zero, List.set_cons_succ, i64_w, i32_w]
               rfl
              exact norm_ (by simp only [putAll, Act.put, List.setIfInBounds_toArray, List.set_cons_zero, List.set_cons_succ]) (hCont (v370, v373, v376) _ ⟨hHeld, (by (with_reducible repeat (first | apply qA | apply qN | apply qD)); exact Kd.R_mono HO374.out (fun _ hk => ⟨hk.2, ⟨hk.1.1, hk.1.2⟩⟩)), (by (with_reducible repeat (first | apply qA | apply qN | apply qD)); exact Kd.R_mono HO377.out (fun _ hk => ⟨hk.1.2, ⟨hk.1.1.2, hk.2⟩⟩)), (by (with_reducible repeat (first | apply qA | apply qN | apply qD)); exact Kd.R_mono HO_5.out (fun _ hk => ⟨hk.1.2, ⟨hk.2, hk.1.1⟩⟩)), (by (with_reducible repeat (first | apply qA | apply qN | apply qD)); exact HO_6.out), (by (with_reducible repeat (first | apply qA | apply qN | apply qD)); exact HO_8.out), (by (with_reducible repeat (first | refine zN ?_ _ | refine zD ?_ | refine zA ?_ _)); exact BK357.out), (by repeat (first | (with_reducible first | exact HB.out | apply yA | apply yN | apply yD | refine yS ?_ GE357.out) | exact HB.out))⟩)
             ·skip
              refine Kd.R_lit_step k46 _ 46 ?hg (N := 62) ?hd (xs := ([(⟨t350, t351, t352, t353, t354, t355, t356⟩ : S46)] : List (S46))) (inner := [.int .i64 t350, .int .i64 t351, .int .i64 t352, .int .i64 t353, .int .i64 t354, .int .i64 t355, .int .i64 t356]) (ok := fun _ => True) (okp := fun _ => True) ?hr ?hp (fun _ hk => hk) trivial (Below.refl _ _) (Nat.le_refl _) (by simp) ?_; (case hd => rfl); (case hg => rfl); (case hr => first | (go_simp; done) | (go_simp; rfl)); (case hp => exact (Reps.c7 (show Kd.M k46 _ _ _ (⟨t350, t351, t352, t353, t354, t355, t356⟩ : S46) [.int .i64 t350, .int .i64 t351, .int .i64 t352, .int .i64 t353, .int .i64 t354, .int .i64 t355, .int .i64 t356] from (k46_mkM _ _ _ (⟨t350, t351, t352, t353, t354, t355, t356⟩ : S46) )) (Reps.none _ _)))
              intro v376 w71 ho72 hb hg_ hnew_
              clear hg_ hnew_
              (first | rw [← Ny375.out] at ho72 | (simp only [Int.reduceToNat] at ho72; rw [← Ny375.out] at ho72))
              have n0_ := qM (Kd.R_elder' (by (with_reducible repeat (first | apply qA | apply qN | apply qD)); exact HO_5.out) (Kd.R_base ho72) hb)
              have n1_ := qM (Kd.R_below (by (with_reducible repeat (first | apply qA | apply qN | apply qD)); exact HO_6.out) hb)
              have n2_ := qM (Kd.R_below (by (with_reducible repeat (first | apply qA | apply qN | apply qD)); exact HO_8.out) hb)
              have n3_ := qM (Kd.R_elder' (by (with_reducible repeat (first | apply qA | apply qN | apply qD)); exact HO371.out) (Kd.R_base ho72) hb)
              have n4_ := qM (Kd.R_lower (Kd.R_newB (Kd.R_new' (Kd.R_new' ho72 (Kd.R_lt (by (with_reducible repeat (first | apply qA | apply qN | apply qD)); exact HO_5.out))) (Kd.R_lt (by (with_reducible repeat (first | apply qA | apply qN | apply qD)); exact HO371.out))) (g := gb357) (o := .cells #[.int .i64 t350, .int .i64 t351, .int .i64 t352, .int .i64 t353, .int .i64 t354, .int .i64 t355, .int .i64 t356] 46 (0, 0)) (by (with_reducible repeat (first | refine zN ?_ _ | refine zD ?_ | refine zA ?_ _)); exact BK357.out)) (below_size (by repeat (first | (with_reducible first | exact HB.out | apply yA | apply yN | apply yD | refine yS ?_ GE357.out) | exact HB.out))))
              have n5_ := qM (blk_below (g := gb357) (o := .cells #[.int .i64 t350, .int .i64 t351, .int .i64 t352, .int .i64 t353, .int .i64 t354, .int .i64 t355, .int .i64 t356] 46 (0, 0)) (by (with_reducible repeat (first | refine zN ?_ _ | refine zD ?_ | refine zA ?_ _)); exact BK357.out) hb)
              have n6_ := qM (below_step (by repeat (first | (with_reducible first | exact HB.out | apply yA | apply yN | apply yD | refine yS ?_ GE357.out) | exact HB.out)) hb)
              clear HO_5
              clear HO_6
              clear HO_8
              clear HO371
              clear BK357
              clear HB
              have HO_5 := n0_
              have HO_6 := n1_
              have HO_8 := n2_
              have HO371 := n3_
              have HO377 := n4_
              have BK357 := n5_
              have HB := n6_
              clear n0_ n1_ n2_ n3_ n4_ n5_ n6_
              clear hb ho72
              refine hK.out _ _ ⟨(zC BK357.out 0).trans rfl, (zC BK357.out 1).trans rfl, (zC BK357.out 2).trans rfl, (zC BK357.out 3).trans rfl, (zC BK357.out 4).trans rfl, (zC BK357.out 5).trans rfl, (zC BK357.out 6).trans rfl⟩ (fun hHeld => ?_)
              clear hK K
              refine norm_ (a' := ?_) ?_ ?_
              rotate_left
              ·show Act.put _ (some 62) _ = _
               simp only [Act.put, List.setIfInBounds_toArray, List.set_cons_zero, List.set_cons_succ, i64_w, i32_w]
               rfl
              refine one_ (i := 2) (N := some 60) #[true, true, true, true, true, false, false] rfl rfl (by kernel_rfl) (by decide) (fun K hK => ?_)
              refine Kd.R_append_rows_step k46 (w0 := w) w.heap.size (by rfl) (.tmp 58) (.tmp 59) 36 46 (.agg #[(.int .i64 0), (.int .i64 0), (.int .i64 0), (.int .i64 0), (.int .i64 0), (.int .i64 0), (.int .i64 0)]) 56 rfl Try.underlying36 info46 rfl (by decide) (by omega) v370 y369 t344 _ _ _ (fun k_ => some k_ ≠ (.slice Ao15 t344.length co15 : Value).ownBlock ∧ some k_ ≠ (v376 : Value).ownBlock ∧ k_ ≠ gb357) (fun _ => False) rfl rfl ?aO ?aR (fun _ _ h => h) (fun _ h => h.elim) ?aF ?aB ?aS ?aL ?_
              (case aR => repeat (first | exact (qR HO_5.out).2.2 | (with_reducible refine Kd.C_alloc ?_ _) | (with_reducible refine Kd.C_drewN ?_ _) | (with_reducible refine Kd.C_drew ?_)))
              (case aB => exact (by repeat (first | (with_reducible first | exact HB.out | apply yA | apply yN | apply yD | refine yS ?_ GE357.out) | exact HB.out)))
              (case aF => exact (fun k_ hk => ⟨Kd.fresh' (Kd.R_lt (by (with_reducible repeat (first | apply qA | apply qN | apply qD)); exact HO_5.out)) k_ hk, Kd.fresh' (Kd.R_lt (by (with_reducible repeat (first | apply qA | apply qN | apply qD)); exact HO377.out)) k_ hk, Kd.freshB (g := gb357) (o := .cells #[.int .i64 t350, .int .i64 t351, .int .i64 t352, .int .i64 t353, .int .i64 t354, .int .i64 t355, .int .i64 t356] 46 (0, 0)) (by (with_reducible repeat (first | refine zN ?_ _ | refine zD ?_ | refine zA ?_ _)); exact BK357.out) k_ hk⟩))
              (case aO => exact (by (with_reducible repeat (first | apply qA | apply qN | apply qD)); exact Kd.R_mono HO371.out (fun _ hk => ⟨hk.1.1.2, ⟨hk.2, hk.1.2⟩⟩)))
              (case aS => exact (below_size (by repeat (first | (with_reducible first | exact HB.out | apply yA | apply yN | apply yD | refine yS ?_ GE357.out) | exact HB.out))))
              (case aL => have := LMc34.out; omega)
              intro v373 w73 ho hb hg hat
              rw [← Ny372.out] at ho
              have n0_ := qM (Kd.R_after (ok := (fun k_ => some k_ ≠ (v376 : Value).ownBlock ∧ k_ ≠ gb357)) (by (with_reducible repeat (first | apply qA | apply qN | apply qD)); exact Kd.R_mono HO_5.out (fun _ hk => ⟨⟨hk.2, hk.1.1⟩, hk.1.2⟩)) hg hat)
              have n1_ := qM (Kd.R_over' (by (with_reducible repeat (first | apply qA | apply qN | apply qD)); exact HO_6.out) (Kd.R_typed (by (with_reducible repeat (first | apply qA | apply qN | apply qD)); exact HO371.out)) (by decide) hg)
              have n2_ := qM (Kd.R_over' (by (with_reducible repeat (first | apply qA | apply qN | apply qD)); exact HO_8.out) (Kd.R_typed (by (with_reducible repeat (first | apply qA | apply qN | apply qD)); exact HO371.out)) (by decide) hg)
              have n3_ := qM (blk_grown (g := gb357) (o := .cells #[.int .i64 t350, .int .i64 t351, .int .i64 t352, .int .i64 t353, .int .i64 t354, .int .i64 t355, .int .i64 t356] 46 (0, 0)) (by (with_reducible repeat (first | refine zN ?_ _ | refine zD ?_ | refine zA ?_ _)); exact BK357.out) hg (Kd.R_away HO371.out (fun _ hk => hk.1.2)))
              have n4_ := qM (Kd.R_after (ok := (fun k_ => some k_ ≠ (.slice Ao15 t344.length co15 : Value).ownBlock ∧ k_ ≠ gb357)) (by (with_reducible repeat (first | apply qA | apply qN | apply qD)); exact Kd.R_mono HO377.out (fun _ hk => ⟨⟨hk.1.1.2, hk.2⟩, hk.1.2⟩)) hg hat)
              have n5_ := qM (hb)
              have n6_ := qM (ho)
              clear HO_5
              clear HO_6
              clear HO_8
              clear BK357
              clear HO377
              clear HB
              clear HO371
              have HO_5 := n0_
              have HO_6 := n1_
              have HO_8 := n2_
              have BK357 := n3_
              have HO377 := n4_
              have HB := n5_
              have HO374 := n6_
              clear n0_ n1_ n2_ n3_ n4_ n5_ n6_
              clear ho hb hg hat
              refine hK.out _ _ ⟨(zC BK357.out 0).trans rfl, (zC BK357.out 1).trans rfl, (zC BK357.out 2).trans rfl, (zC BK357.out 3).trans rfl, (zC BK357.out 4).trans rfl, (zC BK357.out 5).trans rfl, (zC BK357.out 6).trans rfl⟩ (fun hHeld => ?_)
              clear hK K
              refine norm_ (a' := ?_) ?_ ?_
              rotate_left
              ·show Act.put _ (some 60) _ = _
               simp only [Act.put, List.setIfInBounds_toArray, List.set_cons_zero, List.set_cons_succ, i64_w, i32_w]
               rfl
              exact norm_ (by simp only [putAll, Act.put, List.setIfInBounds_toArray, List.set_cons_zero, List.set_cons_succ]) (hCont (v370, v373, v376) _ ⟨hHeld, (by (with_reducible repeat (first | apply qA | apply qN | apply qD)); exact Kd.R_mono HO374.out (fun _ hk => ⟨hk.2.1, ⟨hk.1, hk.2.2⟩⟩)), (by (with_reducible repeat (first | apply qA | apply qN | apply qD)); exact Kd.R_mono HO377.out (fun _ hk => ⟨hk.2, ⟨hk.1.1, hk.1.2⟩⟩)), (by (with_reducible repeat (first | apply qA | apply qN | apply qD)); exact Kd.R_mono HO_5.out (fun _ hk => ⟨hk.2, ⟨hk.1.1, hk.1.2⟩⟩)), (by (with_reducible repeat (first | apply qA | apply qN | apply qD)); exact HO_6.out), (by (with_reducible repeat (first | apply qA | apply qN | apply qD)); exact HO_8.out), (by (with_reducible repeat (first | refine zN ?_ _ | refine zD ?_ | refine zA ?_ _)); exact BK357.out), (by repeat (first | (with_reducible first | exact HB.out | apply yA | apply yN | apply yD | refine yS ?_ GE357.out) | exact HB.out))⟩)
            ·skip
             refine Kd.R_lit_step k46 _ 46 ?hg (N := 62) ?hd (xs := ([(⟨t350, t351, t352, t353, t354, t355, t356⟩ : S46)] : List (S46))) (inner := [.int .i64 t350, .int .i64 t351, .int .i64 t352, .int .i64 t353, .int .i64 t354, .int .i64 t355, .int .i64 t356]) (ok := fun _ => True) (okp := fun _ => True) ?hr ?hp (fun _ hk => hk) trivial (Below.refl _ _) (Nat.le_refl _) (by simp) ?_; (case hd => rfl); (case hg => rfl); (case hr => first | (go_simp; done) | (go_simp; rfl)); (case hp => exact (Reps.c7 (show Kd.M k46 _ _ _ (⟨t350, t351, t352, t353, t354, t355, t356⟩ : S46) [.int .i64 t350, .int .i64 t351, .int .i64 t352, .int .i64 t353, .int .i64 t354, .int .i64 t355, .int .i64 t356] from (k46_mkM _ _ _ (⟨t350, t351, t352, t353, t354, t355, t356⟩ : S46) )) (Reps.none _ _)))
             intro v376 w69 ho70 hb hg_ hnew_
             clear hg_ hnew_
             (first | rw [← Ny375.out] at ho70 | (simp only [Int.reduceToNat] at ho70; rw [← Ny375.out] at ho70))
             have n0_ := qM (Kd.R_elder' (by (with_reducible repeat (first | apply qA | apply qN | apply qD)); exact HO_5.out) (Kd.R_base ho70) hb)
             have n1_ := qM (Kd.R_below (by (with_reducible repeat (first | apply qA | apply qN | apply qD)); exact HO_6.out) hb)
             have n2_ := qM (Kd.R_below (by (with_reducible repeat (first | apply qA | apply qN | apply qD)); exact HO_8.out) hb)
             have n3_ := qM (Kd.R_lower (Kd.R_newB (Kd.R_new' ho70 (Kd.R_lt (by (with_reducible repeat (first | apply qA | apply qN | apply qD)); exact HO_5.out))) (g := gb357) (o := .cells #[.int .i64 t350, .int .i64 t351, .int .i64 t352, .int .i64 t353, .int .i64 t354, .int .i64 t355, .int .i64 t356] 46 (0, 0)) (by (with_reducible repeat (first | refine zN ?_ _ | refine zD ?_ | refine zA ?_ _)); exact BK357.out)) (below_size (by repeat (first | (with_reducible first | exact HB.out | apply yA | apply yN | apply yD | refine yS ?_ GE357.out) | exact HB.out))))
             have n4_ := qM (blk_below (g := gb357) (o := .cells #[.int .i64 t350, .int .i64 t351, .int .i64 t352, .int .i64 t353, .int .i64 t354, .int .i64 t355, .int .i64 t356] 46 (0, 0)) (by (with_reducible repeat (first | refine zN ?_ _ | refine zD ?_ | refine zA ?_ _)); exact BK357.out) hb)
             have n5_ := qM (below_step (by repeat (first | (with_reducible first | exact HB.out | apply yA | apply yN | apply yD | refine yS ?_ GE357.out) | exact HB.out)) hb)
             clear HO_5
             clear HO_6
             clear HO_8
             clear BK357
             clear HB
             have HO_5 := n0_
             have HO_6 := n1_
             have HO_8 := n2_
             have HO377 := n3_
             have BK357 := n4_
             have HB := n5_
             clear n0_ n1_ n2_ n3_ n4_ n5_
             clear hb ho70
             refine hK.out _ _ ⟨(zC BK357.out 0).trans rfl, (zC BK357.out 1).trans rfl, (zC BK357.out 2).trans rfl, (zC BK357.out 3).trans rfl, (zC BK357.out 4).trans rfl, (zC BK357.out 5).trans rfl, (zC BK357.out 6).trans rfl⟩ (fun hHeld => ?_)
             clear hK K
             refine norm_ (a' := ?_) ?_ ?_
             rotate_left
             ·show Act.put _ (some 62) _ = _
              simp only [Act.put, List.setIfInBounds_toArray, List.set_cons_zero, List.set_cons_succ, i64_w, i32_w]
              rfl
             refine one_ (i := 0) (N := some 58) #[true, true, false, true, true, false, false] rfl rfl (by kernel_rfl) (by decide) (fun K hK => ?_)
             refine Kd.R_lit_step k46 _ 46 ?hg (N := 58) ?hd (xs := ([] : List (S46))) (inner := []) (ok := fun _ => True) (okp := fun _ => True) ?hr ?hp (fun _ hk => hk) trivial (Below.refl _ _) (Nat.le_refl _) (by simp) ?_; (case hd => rfl); (case hg => rfl); (case hr => first | (go_simp; done) | (go_simp; rfl)); (case hp => exact (Reps.none _ _))
             intro v370 w71 ho72 hb hg_ hnew_
             clear hg_ hnew_
             (first | rw [← Ny369.out] at ho72 | (simp only [Int.reduceToNat] at ho72; rw [← Ny369.out] at ho72))
             have n0_ := qM (Kd.R_elder' (by (with_reducible repeat (first | apply qA | apply qN | apply qD)); exact HO_5.out) (Kd.R_base ho72) hb)
             have n1_ := qM (Kd.R_below (by (with_reducible repeat (first | apply qA | apply qN | apply qD)); exact HO_6.out) hb)
             have n2_ := qM (Kd.R_below (by (with_reducible repeat (first | apply qA | apply qN | apply qD)); exact HO_8.out) hb)
             have n3_ := qM (Kd.R_elder' (by (with_reducible repeat (first | apply qA | apply qN | apply qD)); exact HO377.out) (Kd.R_base ho72) hb)
             have n4_ := qM (Kd.R_lower (Kd.R_newB (Kd.R_new' (Kd.R_new' ho72 (Kd.R_lt (by (with_reducible repeat (first | apply qA | apply qN | apply qD)); exact HO_5.out))) (Kd.R_lt (by (with_reducible repeat (first | apply qA | apply qN | apply qD)); exact HO377.out))) (g := gb357) (o := .cells #[.int .i64 t350, .int .i64 t351, .int .i64 t352, .int .i64 t353, .int .i64 t354, .int .i64 t355, .int .i64 t356] 46 (0, 0)) (by (with_reducible repeat (first | refine zN ?_ _ | refine zD ?_ | refine zA ?_ _)); exact BK357.out)) (below_size (by repeat (first | (with_reducible first | exact HB.out | apply yA | apply yN | apply yD | refine yS ?_ GE357.out) | exact HB.out))))
             have n5_ := qM (blk_below (g := gb357) (o := .cells #[.int .i64 t350, .int .i64 t351, .int .i64 t352, .int .i64 t353, .int .i64 t354, .int .i64 t355, .int .i64 t356] 46 (0, 0)) (by (with_reducible repeat (first | refine zN ?_ _ | refine zD ?_ | refine zA ?_ _)); exact BK357.out) hb)
             have n6_ := qM (below_step (by repeat (first | (with_reducible first | exact HB.out | apply yA | apply yN | apply yD | refine yS ?_ GE357.out) | exact HB.out)) hb)
             clear HO_5
             clear HO_6
             clear HO_8
             clear HO377
             clear BK357
             clear HB
             have HO_5 := n0_
             have HO_6 := n1_
             have HO_8 := n2_
             have HO377 := n3_
             have HO371 := n4_
             have BK357 := n5_
             have HB := n6_
             clear n0_ n1_ n2_ n3_ n4_ n5_ n6_
             clear hb ho72
             refine hK.out _ _ ⟨(zC BK357.out 0).trans rfl, (zC BK357.out 1).trans rfl, (zC BK357.out 2).trans rfl, (zC BK357.out 3).trans rfl, (zC BK357.out 4).trans rfl, (zC BK357.out 5).trans rfl, (zC BK357.out 6).trans rfl⟩ (fun hHeld => ?_)
             clear hK K
             refine norm_ (a' := ?_) ?_ ?_
             rotate_left
             ·show Act.put _ (some 58) _ = _
              simp only [Act.put, List.setIfInBounds_toArray, List.set_cons_zero, List.set_cons_succ, i64_w, i32_w]
              rfl
             refine one_ (i := 2) (N := some 60) #[true, true, true, true, true, false, false] rfl rfl (by kernel_rfl) (by decide) (fun K hK => ?_)
             refine Kd.R_append_rows_step k46 (w0 := w) w.heap.size (by rfl) (.tmp 58) (.tmp 59) 36 46 (.agg #[(.int .i64 0), (.int .i64 0), (.int .i64 0), (.int .i64 0), (.int .i64 0), (.int .i64 0), (.int .i64 0)]) 56 rfl Try.underlying36 info46 rfl (by decide) (by omega) v370 y369 t344 _ _ _ (fun k_ => some k_ ≠ (.slice Ao15 t344.length co15 : Value).ownBlock ∧ some k_ ≠ (v376 : Value).ownBlock ∧ k_ ≠ gb357) (fun _ => False) rfl rfl ?aO ?aR (fun _ _ h => h) (fun _ h => h.elim) ?aF ?aB ?aS ?aL ?_
             (case aR => repeat (first | exact (qR HO_5.out).2.2 | (with_reducible refine Kd.C_alloc ?_ _) | (with_reducible refine Kd.C_drewN ?_ _) | (with_reducible refine Kd.C_drew ?_)))
             (case aB => exact (by repeat (first | (with_reducible first | exact HB.out | apply yA | apply yN | apply yD | refine yS ?_ GE357.out) | exact HB.out)))
             (case aF => exact (fun k_ hk => ⟨Kd.fresh' (Kd.R_lt (by (with_reducible repeat (first | apply qA | apply qN | apply qD)); exact HO_5.out)) k_ hk, Kd.fresh' (Kd.R_lt (by (with_reducible repeat (first | apply qA | apply qN | apply qD)); exact HO377.out)) k_ hk, Kd.freshB (g := gb357) (o := .cells #[.int .i64 t350, .int .i64 t351, .int .i64 t352, .int .i64 t353, .int .i64 t354, .int .i64 t355, .int .i64 t356] 46 (0, 0)) (by (with_reducible repeat (first | refine zN ?_ _ | refine zD ?_ | refine zA ?_ _)); exact BK357.out) k_ hk⟩))
             (case aO => exact (by (with_reducible repeat (first | apply qA | apply qN | apply qD)); exact Kd.R_mono HO371.out (fun _ hk => ⟨hk.1.1.2, ⟨hk.1.2, hk.2⟩⟩)))
             (case aS => exact (below_size (by repeat (first | (with_reducible first | exact HB.out | apply yA | apply yN | apply yD | refine yS ?_ GE357.out) | exact HB.out))))
             (case aL => have := LMc34.out; omega)
             intro v373 w73 ho hb hg hat
             rw [← Ny372.out] at ho
             have n0_ := qM (Kd.R_after (ok := (fun k_ => some k_ ≠ (v376 : Value).ownBlock ∧ k_ ≠ gb357)) (by (with_reducible repeat (first | apply qA | apply qN | apply qD)); exact Kd.R_mono HO_5.out (fun _ hk => ⟨⟨hk.1.2, hk.1.1⟩, hk.2⟩)) hg hat)
             have n1_ := qM (Kd.R_over' (by (with_reducible repeat (first | apply qA | apply qN | apply qD)); exact HO_6.out) (Kd.R_typed (by (with_reducible repeat (first | apply qA | apply qN | apply qD)); exact HO371.out)) (by decide) hg)
             have n2_ := qM (Kd.R_over' (by (with_reducible repeat (first | apply qA | apply qN | apply qD)); exact HO_8.out) (Kd.R_typed (by (with_reducible repeat (first | apply qA | apply qN | apply qD)); exact HO371.out)) (by decide) hg)
             have n3_ := qM (blk_grown (g := gb357) (o := .cells #[.int .i64 t350, .int .i64 t351, .int .i64 t352, .int .i64 t353, .int .i64 t354, .int .i64 t355, .int .i64 t356] 46 (0, 0)) (by (with_reducible repeat (first | refine zN ?_ _ | refine zD ?_ | refine zA ?_ _)); exact BK357.out) hg (Kd.R_away HO371.out (fun _ hk => hk.2)))
             have n4_ := qM (Kd.R_after (ok := (fun k_ => some k_ ≠ (.slice Ao15 t344.length co15 : Value).ownBlock ∧ k_ ≠ gb357)) (by (with_reducible repeat (first | apply qA | apply qN | apply qD)); exact Kd.R_mono HO377.out (fun _ hk => ⟨⟨hk.1.1.2, hk.1.2⟩, hk.2⟩)) hg hat)
             have n5_ := qM (hb)
             have n6_ := qM (ho)
             clear HO_5
             clear HO_6
             clear HO_8
             clear BK357
             clear HO377
             clear HB
             clear HO371
             have HO_5 := n0_
             have HO_6 := n1_
             have HO_8 := n2_
             have BK357 := n3_
             have HO377 := n4_
             have HB := n5_
             have HO374 := n6_
             clear n0_ n1_ n2_ n3_ n4_ n5_ n6_
             clear ho hb hg hat
             refine hK.out _ _ ⟨(zC BK357.out 0).trans rfl, (zC BK357.out 1).trans rfl, (zC BK357.out 2).trans rfl, (zC BK357.out 3).trans rfl, (zC BK357.out 4).trans rfl, (zC BK357.out 5).trans rfl, (zC BK357.out 6).trans rfl⟩ (fun hHeld => ?_)
             clear hK K
             refine norm_ (a' := ?_) ?_ ?_
             rotate_left
             ·show Act.put _ (some 60) _ = _
              simp only [Act.put, List.setIfInBounds_toArray, List.set_cons_zero, List.set_cons_succ, i64_w, i32_w]
              rfl
             exact norm_ (by simp only [putAll, Act.put, List.setIfInBounds_toArray, List.set_cons_zero, List.set_cons_succ]) (hCont (v370, v373, v376) _ ⟨hHeld, (by (with_reducible repeat (first | apply qA | apply qN | apply qD)); exact Kd.R_mono HO374.out (fun _ hk => ⟨hk.2.1, ⟨hk.1, hk.2.2⟩⟩)), (by (with_reducible repeat (first | apply qA | apply qN | apply qD)); exact Kd.R_mono HO377.out (fun _ hk => ⟨hk.2, ⟨hk.1.1, hk.1.2⟩⟩)), (by (with_reducible repeat (first | apply qA | apply qN | apply qD)); exact Kd.R_mono HO_5.out (fun _ hk => ⟨hk.2, ⟨hk.1.1, hk.1.2⟩⟩)), (by (with_reducible repeat (first | apply qA | apply qN | apply qD)); exact HO_6.out), (by (with_reducible repeat (first | apply qA | apply qN | apply qD)); exact HO_8.out), (by (with_reducible repeat (first | refine zN ?_ _ | refine zD ?_ | refine zA ?_ _)); exact BK357.out), (by repeat (first | (with_reducible first | exact HB.out | apply yA | apply yN | apply yD | refine yS ?_ GE357.out) | exact HB.out))⟩)
           rintro ⟨v370, v373, v376⟩ w74 ⟨hS_, h0_, h1_, h2_, h3_, h4_, h5_, h6_⟩
           have n0_ : Aside0 (Kd.R k46 46 w74 w.heap.size (fun k_ => some k_ ≠ (v376 : Value).ownBlock ∧ some k_ ≠ (.slice Ao15 t344.length co15 : Value).ownBlock ∧ k_ ≠ gb357) v373 y372) := ⟨h0_⟩
           have n1_ : Aside0 (Kd.R k46 46 w74 w.heap.size (fun k_ => some k_ ≠ (v373 : Value).ownBlock ∧ some k_ ≠ (.slice Ao15 t344.length co15 : Value).ownBlock ∧ k_ ≠ gb357) v376 y375) := ⟨h1_⟩
           have n2_ : Aside0 (Kd.R k46 46 w74 w.heap.size (fun k_ => some k_ ≠ (v373 : Value).ownBlock ∧ some k_ ≠ (v376 : Value).ownBlock ∧ k_ ≠ gb357) (.slice Ao15 t344.length co15) t344) := ⟨h2_⟩
           have n3_ : Aside0 (Kd.R (Kd.int .u8) 5 w74 w.heap.size (fun k_ => some k_ ≠ (v360 : Value).ownBlock) (.slice Ao16 t345.length co16) t345) := ⟨h3_⟩
           have n4_ : Aside0 (Kd.R (Kd.int .u8) 5 w74 w.heap.size (fun k_ => some k_ ≠ (.slice Ao16 t345.length co16 : Value).ownBlock) v360 t358) := ⟨h4_⟩
           have n5_ : Aside0 (w74.heap[gb357]? = some (.cells #[.int .i64 t350, .int .i64 t351, .int .i64 t352, .int .i64 t353, .int .i64 t354, .int .i64 t355, .int .i64 t356] 46 (0, 0))) := ⟨h5_⟩
           have n6_ : Aside0 (Below w.heap.size w w74) := ⟨h6_⟩
           clear HO_5
           clear HO_6
           clear HO_8
           clear BK357
           clear HB
           clear h0_ h1_ h2_ h3_ h4_ h5_ h6_
           have HO374 := n0_
           have HO377 := n1_
           have HO_5 := n2_
           have HO_6 := n3_
           have HO_8 := n4_
           have BK357 := n5_
           have HB := n6_
           clear n0_ n1_ n2_ n3_ n4_ n5_ n6_
           have hHeld : w74.cell? ⟨gb357, 0, none⟩ = some (.int .i64 t350) ∧ w74.cell? ⟨gb357, 1, none⟩ = some (.int .i64 t351) ∧ w74.cell? ⟨gb357, 2, none⟩ = some (.int .i64 t352) ∧ w74.cell? ⟨gb357, 3, none⟩ = some (.int .i64 t353) ∧ w74.cell? ⟨gb357, 4, none⟩ = some (.int .i64 t354) ∧ w74.cell? ⟨gb357, 5, none⟩ = some (.int .i64 t355) ∧ w74.cell? ⟨gb357, 6, none⟩ = some (.int .i64 t356) := hS_
           obtain ⟨Ao76, co76, eo76⟩ := Kd.R_slice HO377.out
           (first | subst eo76 | (injection eo76 with f1_ f2_ f3_; have f4_ := f1_.symm; have f5_ := f3_.symm; clear f1_ f2_ f3_; subst f4_; subst f5_))
           refine norm_ (a' := ?_) ?_ ?_
           rotate_left
           ·simp only [putAll, Act.put, List.setIfInBounds_toArray, List.set_cons_zero, List.set_cons_succ]
            rfl
           refine one_ (i := 5) (N := some 63) #[true, true, true, true, true, true, false] rfl rfl (by kernel_rfl) (by decide) (fun K hK => ?_)
           refine Kd.R_append_rows_step k46 (w0 := w) w.heap.size (by rfl) (.tmp 60) (.tmp 62) 36 46 (.agg #[(.int .i64 0), (.int .i64 0), (.int .i64 0), (.int .i64 0), (.int .i64 0), (.int .i64 0), (.int .i64 0)]) 56 rfl Try.underlying36 info46 rfl (by decide) (by omega) v373 y372 y375 _ _ _ (fun k_ => some k_ ≠ (.slice Ao15 t344.length co15 : Value).ownBlock ∧ some k_ ≠ (.slice Ao76 y375.length co76 : Value).ownBlock ∧ k_ ≠ gb357) (fun _ => False) rfl rfl ?aO ?aR (fun _ _ h => h) (fun _ h => h.elim) ?aF ?aB ?aS ?aL ?_
           (case aR => repeat (first | exact (qR HO377.out).2.2 | (with_reducible refine Kd.C_alloc ?_ _) | (with_reducible refine Kd.C_drewN ?_ _) | (with_reducible refine Kd.C_drew ?_)))
           (case aB => exact (by repeat (first | (with_reducible first | exact HB.out | apply yA | apply yN | apply yD | refine yS ?_ GE357.out) | exact HB.out)))
           (case aF => exact (fun k_ hk => ⟨Kd.fresh' (Kd.R_lt (by (with_reducible repeat (first | apply qA | apply qN | apply qD)); exact HO_5.out)) k_ hk, Kd.fresh' (Kd.R_lt (by (with_reducible repeat (first | apply qA | apply qN | apply qD)); exact HO377.out)) k_ hk, Kd.freshB (g := gb357) (o := .cells #[.int .i64 t350, .int .i64 t351, .int .i64 t352, .int .i64 t353, .int .i64 t354, .int .i64 t355, .int .i64 t356] 46 (0, 0)) (by (with_reducible repeat (first | refine zN ?_ _ | refine zD ?_ | refine zA ?_ _)); exact BK357.out) k_ hk⟩))
           (case aO => exact (by (with_reducible repeat (first | apply qA | apply qN | apply qD)); exact Kd.R_mono HO374.out (fun _ hk => ⟨hk.2.1, ⟨hk.1, hk.2.2⟩⟩)))
           (case aS => exact (below_size (by repeat (first | (with_reducible first | exact HB.out | apply yA | apply yN | apply yD | refine yS ?_ GE357.out) | exact HB.out))))
           (case aL => have := LMc35.out; omega)
           intro v379 w75 ho hb hg hat
           rw [← Ny378.out] at ho
           have n0_ := qM (Kd.R_after (ok := (fun k_ => some k_ ≠ (.slice Ao76 y375.length co76 : Value).ownBlock ∧ k_ ≠ gb357)) (by (with_reducible repeat (first | apply qA | apply qN | apply qD)); exact Kd.R_mono HO_5.out (fun _ hk => ⟨⟨hk.2.1, hk.2.2⟩, hk.1⟩)) hg hat)
           have n1_ := qM (Kd.R_over' (by (with_reducible repeat (first | apply qA | apply qN | apply qD)); exact HO_6.out) (Kd.R_typed (by (with_reducible repeat (first | apply qA | apply qN | apply qD)); exact HO374.out)) (by decide) hg)
           have n2_ := qM (Kd.R_over' (by (with_reducible repeat (first | apply qA | apply qN | apply qD)); exact HO_8.out) (Kd.R_typed (by (with_reducible repeat (first | apply qA | apply qN | apply qD)); exact HO374.out)) (by decide) hg)
           have n3_ := qM (blk_grown (g := gb357) (o := .cells #[.int .i64 t350, .int .i64 t351, .int .i64 t352, .int .i64 t353, .int .i64 t354, .int .i64 t355, .int .i64 t356] 46 (0, 0)) (by (with_reducible repeat (first | refine zN ?_ _ | refine zD ?_ | refine zA ?_ _)); exact BK357.out) hg (Kd.R_away HO374.out (fun _ hk => hk.2.2)))
           have n4_ := qM (Kd.R_after (ok := (fun k_ => some k_ ≠ (.slice Ao15 t344.length co15 : Value).ownBlock ∧ k_ ≠ gb357)) (by (with_reducible repeat (first | apply qA | apply qN | apply qD)); exact Kd.R_mono HO377.out (fun _ hk => ⟨⟨hk.2.1, hk.2.2⟩, hk.1⟩)) hg hat)
           have n5_ := qM (hb)
           have n6_ := qM (ho)
           clear HO_5
           clear HO_6
           clear HO_8
           clear BK357
           clear HO377
           clear HB
           clear HO374
           have HO_5 := n0_
           have HO_6 := n1_
           have HO_8 := n2_
           have BK357 := n3_
           have HO377 := n4_
           have HB := n5_
           have HO380 := n6_
           clear n0_ n1_ n2_ n3_ n4_ n5_ n6_
           clear ho hb hg hat
           refine hK.out _ _ ⟨(zC BK357.out 0).trans rfl, (zC BK357.out 1).trans rfl, (zC BK357.out 2).trans rfl, (zC BK357.out 3).trans rfl, (zC BK357.out 4).trans rfl, (zC BK357.out 5).trans rfl, (zC BK357.out 6).trans rfl⟩ (fun hHeld => ?_)
           clear hK K
           refine norm_ (a' := ?_) ?_ ?_
           rotate_left
           ·show Act.put _ (some 63) _ = _
            simp only [Act.put, List.setIfInBounds_toArray, List.set_cons_zero, List.set_cons_succ, i64_w, i32_w]
            rfl
           refine pure_ (i := 6) (N := some 12) (v := ?_) (a' := ?_) #[true, true, true, true, true, true, true] rfl rfl (by kernel_rfl) (fun _ _ _ h => h) (Or.inl ⟨by rfl, ?_⟩) ?_ ?_
           rotate_left
           ·intro w'
            go_simp
            with_reducible rfl
           rotate_left
           ·simp only [Act.put, List.setIfInBounds_toArray, List.set_cons_zero, List.set_cons_succ, i64_w, i32_w]
            rfl
           refine done_ (by kernel_rfl) ?_
           obtain ⟨Ao77, co77, eo77⟩ := Kd.R_slice HO380.out
           subst eo77
           try go_wp2_with (first | ((with_reducible refine gate_callee (f := 24) rfl ?_); refine goesL_ (some 67) rfl rfl Try.func24 (by kernel_rfl) rfl #[.slice Ao77 y378.length co77, .slice Ao16 t345.length co16] rfl (by (try simp only [List.map_toArray, List.map_cons, List.map_nil]); first | done | rfl | (simp only [List.length_drop, List.length_take]; rfl)) ?_; (with_reducible refine (impl_GrdDo.calls _ _ y378 _ _ t345 t381 t382 _ ?side1 ?side2 ?side3 ?side4 A36.out).mono ?_); (case side1 => repeat (first | exact (qR HO380.out).2.2 | (with_reducible refine Kd.C_alloc ?_ _) | (with_reducible refine Kd.C_drewN ?_ _) | (with_reducible refine Kd.C_drew ?_))); (case side2 => exact (qR HO380.out).2.1); (case side3 => repeat (first | exact (qR HO_6.out).2.2 | (with_reducible refine Kd.C_alloc ?_ _) | (with_reducible refine Kd.C_drewN ?_ _) | (with_reducible refine Kd.C_drew ?_))); (case side4 => exact (qR HO_6.out).2.1); rintro e w78 ⟨v383, rfl, ho0, hb⟩; refine ⟨_, rfl, ?_⟩; have n0_ := qM (Kd.R_below (by (with_reducible repeat (first | apply qA | apply qN | apply qD)); exact HO_5.out) hb); have n1_ := qM (Kd.R_elder' (by (with_reducible repeat (first | apply qA | apply qN | apply qD)); exact HO_6.out) (Kd.R_base ho0) hb); have n2_ := qM (Kd.R_elder' (by (with_reducible repeat (first | apply qA | apply qN | apply qD)); exact HO_8.out) (Kd.R_base ho0) hb); have n3_ := qM (Kd.R_below (by (with_reducible repeat (first | apply qA | apply qN | apply qD)); exact HO377.out) hb); have n4_ := qM (Kd.R_below (by (with_reducible repeat (first | apply qA | apply qN | apply qD)); exact HO380.out) hb); have n5_ := qM (Kd.R_lower (Kd.R_new' (Kd.R_new' ho0 (Kd.R_lt (by (with_reducible repeat (first | apply qA | apply qN | apply qD)); exact HO_6.out))) (Kd.R_lt (by (with_reducible repeat (first | apply qA | apply qN | apply qD)); exact HO_8.out))) (below_size (by repeat (first | (with_reducible first | exact HB.out | apply yA | apply yN | apply yD | refine yS ?_ GE357.out) | exact HB.out)))); have n6_ := qM (blk_below (g := gb357) (o := .cells #[.int .i64 t350, .int .i64 t351, .int .i64 t352, .int .i64 t353, .int .i64 t354, .int .i64 t355, .int .i64 t356] 46 (0, 0)) (by (with_reducible repeat (first | refine zN ?_ _ | refine zD ?_ | refine zA ?_ _)); exact BK357.out) hb); have n7_ := qM (below_step (by repeat (first | (with_reducible first | exact HB.out | apply yA | apply yN | apply yD | refine yS ?_ GE357.out) | exact HB.out)) hb); clear HO_5; clear HO_6; clear HO_8; clear HO377; clear HO380; clear BK357; clear HB; have HO_5 := n0_; have HO_6 := n1_; have HO_8 := n2_; have HO377 := n3_; have HO380 := n4_; have HO384 := n5_; have BK357 := n6_; have HB := n7_; clear n0_ n1_ n2_ n3_ n4_ n5_ n6_ n7_; (try clear hb); (try clear hb2); (try clear hk); (try clear hi); (try clear ho0)) | ((with_reducible refine gate_callee (f := 28) rfl ?_); refine goesL_ (some 71) rfl rfl Try.func28 (by kernel_rfl) rfl #[.slice Ao77 y378.length co77] rfl (by (try simp only [List.map_toArray, List.map_cons, List.map_nil]); first | done | rfl | (simp only [List.length_drop, List.length_take]; rfl)) ?_; (with_reducible refine (spec_GrdOk.calls kj9 _ _ y378 true _ ?side1 ?side2 A37.out).mono ?_); (case side1 => repeat (first | exact (qR HO380.out).2.2 | (with_reducible refine Kd.C_alloc ?_ _) | (with_reducible refine Kd.C_drewN ?_ _) | (with_reducible refine Kd.C_drew ?_))); (case side2 => exact (qR HO380.out).2.1); rintro e w79 ⟨rfl, hb⟩; refine ⟨_, rfl, ?_⟩; have n0_ := qM (Kd.R_below (by (with_reducible repeat (first | apply qA | apply qN | apply qD)); exact HO_5.out) hb); have n1_ := qM (Kd.R_below (by (with_reducible repeat (first | apply qA | apply qN | apply qD)); exact HO_6.out) hb); have n2_ := qM (Kd.R_below (by (with_reducible repeat (first | apply qA | apply qN | apply qD)); exact HO_8.out) hb); have n3_ := qM (Kd.R_below (by (with_reducible repeat (first | apply qA | apply qN | apply qD)); exact HO377.out) hb); have n4_ := qM (Kd.R_below (by (with_reducible repeat (first | apply qA | apply qN | apply qD)); exact HO380.out) hb); have n5_ := qM (Kd.R_below (by (with_reducible repeat (first | apply qA | apply qN | apply qD)); exact HO384.out) hb); have n6_ := qM (blk_below (g := gb357) (o := .cells #[.int .i64 t350, .int .i64 t351, .int .i64 t352, .int .i64 t353, .int .i64 t354, .int .i64 t355, .int .i64 t356] 46 (0, 0)) (by (with_reducible repeat (first | refine zN ?_ _ | refine zD ?_ | refine zA ?_ _)); exact BK357.out) hb); have n7_ := qM (below_step (by repeat (first | (with_reducible first | exact HB.out | apply yA | apply yN | apply yD | refine yS ?_ GE357.out) | exact HB.out)) hb); clear HO_5; clear HO_6; clear HO_8; clear HO377; clear HO380; clear HO384; clear BK357; clear HB; have HO_5 := n0_; have HO_6 := n1_; have HO_8 := n2_; have HO377 := n3_; have HO380 := n4_; have HO384 := n5_; have BK357 := n6_; have HB := n7_; clear n0_ n1_ n2_ n3_ n4_ n5_ n6_ n7_; (try clear hb); (try clear hb2); (try clear hk); (try clear hi)))
           go_ret
           exact ⟨by first | rfl | (simp [errW_none, errW_some] <;> rfl) | (simp [*, errW_none, errW_some] <;> rfl), by repeat (first | (with_reducible first | exact HB.out | apply yA | apply yN | apply yD | refine yS ?_ GE357.out) | exact HB.out)⟩
         ·replace c38 := Bool.eq_false_iff.mpr c38
          subst c38
          have H1 : (if t382 = true then (some false) else ((impl_GrdRuleOk.f 0 0 0 0 0 0 0).bind fun t387 => (some t387))) = some r := by rw [if_neg (show ¬ (false = true) by decide)] at H; exact H
          clear H
          have H := H1
          clear H1
          by_cases c80 : t382 = true
          ·subst c80
           have H1 : (some false) = some r := by rw [if_pos rfl] at H; exact H
           clear H
           have H := H1
           clear H1
           exact absurd ((Option.some.inj H).trans hr_) (by decide)
          ·replace c80 := Bool.eq_false_iff.mpr c80
           subst c80
           have H1 : ((impl_GrdRuleOk.f 0 0 0 0 0 0 0).bind fun t387 => (some t387)) = some r := by rw [if_neg (show ¬ (false = true) by decide)] at H; exact H
           clear H
           have H := H1
           clear H1
           replace H := Option.bind_eq_some_iff.mp H
           obtain ⟨t387, A930, H⟩ := H
           replace H : (some t387) = some r := H
           have A93 := qM A930
           clear A930
           obtain rfl := Option.some.inj H
           try go_wp2
           have n0_ := qM (qD HO_5.out)
           have n1_ := qM (qD HO_6.out)
           have n2_ := qM (qD HO_8.out)
           have n3_ := qM (zD BK357.out)
           have n4_ := qM (yD HB.out)
           clear HO_5
           clear HO_6
           clear HO_8
           clear BK357
           clear HB
           have HO_5 := n0_
           have HO_6 := n1_
           have HO_8 := n2_
           have BK357 := n3_
           have HB := n4_
           clear n0_ n1_ n2_ n3_ n4_
           refine start_ (n := 7) (S := fun w' => w'.cell? ⟨gb357, 0, none⟩ = some (.int .i64 t350) ∧ w'.cell? ⟨gb357, 1, none⟩ = some (.int .i64 t351) ∧ w'.cell? ⟨gb357, 2, none⟩ = some (.int .i64 t352) ∧ w'.cell? ⟨gb357, 3, none⟩ = some (.int .i64 t353) ∧ w'.cell? ⟨gb357, 4, none⟩ = some (.int .i64 t354) ∧ w'.cell? ⟨gb357, 5, none⟩ = some (.int .i64 t355) ∧ w'.cell? ⟨gb357, 6, none⟩ = some (.int .i64 t356)) (ds := []) #[false, false, false, false, false, false, false] (by kernel_rfl) rfl rfl ⟨(zC BK357.out 0).trans rfl, (zC BK357.out 1).trans rfl, (zC BK357.out 2).trans rfl, (zC BK357.out 3).trans rfl, (zC BK357.out 4).trans rfl, (zC BK357.out 5).trans rfl, (zC BK357.out 6).trans rfl⟩ (fun hHeld => ?_)
           generalize wc.drew = w94 at HO_5 HO_6 HO_8 BK357 HB hHeld ⊢
           refine pure_ (i := 1) (N := some 59) (v := ?_) (a' := ?_) #[false, true, false, false, false, false, false] rfl rfl (by kernel_rfl) (fun _ _ _ h => h) (Or.inl ⟨by rfl, ?_⟩) ?_ ?_
           rotate_left
           ·intro w'
            go_simp
            with_reducible rfl
           rotate_left
           ·simp only [Act.put, List.setIfInBounds_toArray, List.set_cons_zero, List.set_cons_succ, i64_w, i32_w]
            rfl
           refine take_ (i := 3) (N := some 61) (v := ?_) (a' := ?_) #[false, true, false, true, false, false, false] rfl rfl (by kernel_rfl) (fun _ _ _ h => h) (Or.inl ⟨by rfl, ?_⟩) hHeld ?_ ?_
           rotate_left
           ·rintro w' ⟨s0, s1, s2, s3, s4, s5, s6⟩
            go_simp
            with_reducible rfl
           rotate_left
           ·simp only [Act.put, List.setIfInBounds_toArray, List.set_cons_zero, List.set_cons_succ, i64_w, i32_w]
            rfl
           refine join_ (σ := Value × Value × Value) 2 #[true, true, true, true, true, false, false] (fun s_ => [(58, s_.1), (60, s_.2.1), (62, s_.2.2)]) (fun s_ w' => (w'.cell? ⟨gb357, 0, none⟩ = some (.int .i64 t350) ∧ w'.cell? ⟨gb357, 1, none⟩ = some (.int .i64 t351) ∧ w'.cell? ⟨gb357, 2, none⟩ = some (.int .i64 t352) ∧ w'.cell? ⟨gb357, 3, none⟩ = some (.int .i64 t353) ∧ w'.cell? ⟨gb357, 4, none⟩ = some (.int .i64 t354) ∧ w'.cell? ⟨gb357, 5, none⟩ = some (.int .i64 t355) ∧ w'.cell? ⟨gb357, 6, none⟩ = some (.int .i64 t356)) ∧ (Kd.R k46 46 w' w.heap.size (fun k_ => some k_ ≠ (s_.2.2 : Value).ownBlock ∧ some k_ ≠ (.slice Ao15 t344.length co15 : Value).ownBlock ∧ k_ ≠ gb357) s_.2.1 y372) ∧ (Kd.R k46 46 w' w.heap.size (fun k_ => some k_ ≠ (s_.2.1 : Value).ownBlock ∧ some k_ ≠ (.slice Ao15 t344.length co15 : Value).ownBlock ∧ k_ ≠ gb357) s_.2.2 y375) ∧ (Kd.R k46 46 w' w.heap.size (fun k_ => some k_ ≠ (s_.2.1 : Value).ownBlock ∧ some k_ ≠ (s_.2.2 : Value).ownBlock ∧ k_ ≠ gb357) (.slice Ao15 t344.length co15) t344) ∧ (Kd.R (Kd.int .u8) 5 w' w.heap.size (fun k_ => some k_ ≠ (v360 : Value).ownBlock) (.slice Ao16 t345.length co16) t345) ∧ (Kd.R (Kd.int .u8) 5 w' w.heap.size (fun k_ => some k_ ≠ (.slice Ao16 t345.length co16 : Value).ownBlock) v360 t358) ∧ (w'.heap[gb357]? = some (.cells #[.int .i64 t350, .int .i64 t351, .int .i64 t352, .int .i64 t353, .int .i64 t354, .int .i64 t355, .int .i64 t356] 46 (0, 0))) ∧ (Below w.heap.size w w')) ?_ ?_
           rotate_left
           ·intro hCont
            refine two_ (i := 0) (j := 4) (Ni := some 58) (Nj := some 62) #[true, true, false, true, false, false, false] #[false, true, false, true, true, false, false] rfl rfl rfl rfl (by kernel_rfl) (by decide) (by decide) (fun K hK => ?_) (fun K hK => ?_)
            ·skip
             refine Kd.R_lit_step k46 _ 46 ?hg (N := 58) ?hd (xs := ([] : List (S46))) (inner := []) (ok := fun _ => True) (okp := fun _ => True) ?hr ?hp (fun _ hk => hk) trivial (Below.refl _ _) (Nat.le_refl _) (by simp) ?_; (case hd => rfl); (case hg => rfl); (case hr => first | (go_simp; done) | (go_simp; rfl)); (case hp => exact (Reps.none _ _))
             intro v370 w95 ho96 hb hg_ hnew_
             clear hg_ hnew_
             (first | rw [← Ny369.out] at ho96 | (simp only [Int.reduceToNat] at ho96; rw [← Ny369.out] at ho96))
             have n0_ := qM (Kd.R_elder' (by (with_reducible repeat (first | apply qA | apply qN | apply qD)); exact HO_5.out) (Kd.R_base ho96) hb)
             have n1_ := qM (Kd.R_below (by (with_reducible repeat (first | apply qA | apply qN | apply qD)); exact HO_6.out) hb)
             have n2_ := qM (Kd.R_below (by (with_reducible repeat (first | apply qA | apply qN | apply qD)); exact HO_8.out) hb)
             have n3_ := qM (Kd.R_lower (Kd.R_newB (Kd.R_new' ho96 (Kd.R_lt (by (with_reducible repeat (first | apply qA | apply qN | apply qD)); exact HO_5.out))) (g := gb357) (o := .cells #[.int .i64 t350, .int .i64 t351, .int .i64 t352, .int .i64 t353, .int .i64 t354, .int .i64 t355, .int .i64 t356] 46 (0, 0)) (by (with_reducible repeat (first | refine zN ?_ _ | refine zD ?_ | refine zA ?_ _)); exact BK357.out)) (below_size (by repeat (first | (with_reducible first | exact HB.out | apply yA | apply yN | apply yD | refine yS ?_ GE357.out) | exact HB.out))))
             have n4_ := qM (blk_below (g := gb357) (o := .cells #[.int .i64 t350, .int .i64 t351, .int .i64 t352, .int .i64 t353, .int .i64 t354, .int .i64 t355, .int .i64 t356] 46 (0, 0)) (by (with_reducible repeat (first | refine zN ?_ _ | refine zD ?_ | refine zA ?_ _)); exact BK357.out) hb)
             have n5_ := qM (below_step (by repeat (first | (with_reducible first | exact HB.out | apply yA | apply yN | apply yD | refine yS ?_ GE357.out) | exact HB.out)) hb)
             clear HO_5
             clear HO_6
             clear HO_8
             clear BK357
             clear HB
             have HO_5 := n0_
             have HO_6 := n1_
             have HO_8 := n2_
             have HO371 := n3_
             have BK357 := n4_
             have HB := n5_
             clear n0_ n1_ n2_ n3_ n4_ n5_
             clear hb ho96
             refine hK.out _ _ ⟨(zC BK357.out 0).trans rfl, (zC BK357.out 1).trans rfl, (zC BK357.out 2).trans rfl, (zC BK357.out 3).trans rfl, (zC BK357.out 4).trans rfl, (zC BK357.out 5).trans rfl, (zC BK357.out 6).trans rfl⟩ (fun hHeld => ?_)
             clear hK K
             refine norm_ (a' := ?_) ?_ ?_
             rotate_left
             ·show Act.put _ (some 58) _ = _
              simp only [Act.put, List.setIfInBounds_toArray, List.set_cons_zero, List.set_cons_succ, i64_w, i32_w]
              rfl
             refine two_ (i := 2) (j := 4) (Ni := some 60) (Nj := some 62) #[true, true, true, true, false, false, false] #[true, true, false, true, true, false, false] rfl rfl rfl rfl (by kernel_rfl) (by decide) (by decide) (fun K hK => ?_) (fun K hK => ?_)
             ·skip
              refine Kd.R_append_rows_step k46 (w0 := w) w.heap.size (by rfl) (.tmp 58) (.tmp 59) 36 46 (.agg #[(.int .i64 0), (.int .i64 0), (.int .i64 0), (.int .i64 0), (.int .i64 0), (.int .i64 0), (.int .i64 0)]) 56 rfl Try.underlying36 info46 rfl (by decide) (by omega) v370 y369 t344 _ _ _ (fun k_ => some k_ ≠ (.slice Ao15 t344.length co15 : Value).ownBlock ∧ k_ ≠ gb357) (fun _ => False) rfl rfl ?aO ?aR (fun _ _ h => h) (fun _ h => h.elim) ?aF ?aB ?aS ?aL ?_
              (case aR => repeat (first | exact (qR HO_5.out).2.2 | (with_reducible refine Kd.C_alloc ?_ _) | (with_reducible refine Kd.C_drewN ?_ _) | (with_reducible refine Kd.C_drew ?_)))
              (case aB => exact (by repeat (first | (with_reducible first | exact HB.out | apply yA | apply yN | apply yD | refine yS ?_ GE357.out) | exact HB.out)))
              (case aF => exact (fun k_ hk => ⟨Kd.fresh' (Kd.R_lt (by (with_reducible repeat (first | apply qA | apply qN | apply qD)); exact HO_5.out)) k_ hk, Kd.freshB (g := gb357) (o := .cells #[.int .i64 t350, .int .i64 t351, .int .i64 t352, .int .i64 t353, .int .i64 t354, .int .i64 t355, .int .i64 t356] 46 (0, 0)) (by (with_reducible repeat (first | refine zN ?_ _ | refine zD ?_ | refine zA ?_ _)); exact BK357.out) k_ hk⟩))
              (case aO => exact (by (with_reducible repeat (first | apply qA | apply qN | apply qD)); exact Kd.R_mono HO371.out (fun _ hk => ⟨hk.1.2, hk.2⟩)))
              (case aS => exact (below_size (by repeat (first | (with_reducible first | exact HB.out | apply yA | apply yN | apply yD | refine yS ?_ GE357.out) | exact HB.out))))
              (case aL => have := LMc34.out; omega)
              intro v373 w97 ho hb hg hat
              rw [← Ny372.out] at ho
              have n0_ := qM (Kd.R_after (ok := (fun k_ => k_ ≠ gb357)) (by (with_reducible repeat (first | apply qA | apply qN | apply qD)); exact HO_5.out) hg hat)
              have n1_ := qM (Kd.R_over' (by (with_reducible repeat (first | apply qA | apply qN | apply qD)); exact HO_6.out) (Kd.R_typed (by (with_reducible repeat (first | apply qA | apply qN | apply qD)); exact HO371.out)) (by decide) hg)
              have n2_ := qM (Kd.R_over' (by (with_reducible repeat (first | apply qA | apply qN | apply qD)); exact HO_8.out) (Kd.R_typed (by (with_reducible repeat (first | apply qA | apply qN | apply qD)); exact HO371.out)) (by decide) hg)
              have n3_ := qM (blk_grown (g := gb357) (o := .cells #[.int .i64 t350, .int .i64 t351, .int .i64 t352, .int .i64 t353, .int .i64 t354, .int .i64 t355, .int .i64 t356] 46 (0, 0)) (by (with_reducible repeat (first | refine zN ?_ _ | refine zD ?_ | refine zA ?_ _)); exact BK357.out) hg (Kd.R_away HO371.out (fun _ hk => hk.2)))
              have n4_ := qM (hb)
              have n5_ := qM (ho)
              clear HO_5
              clear HO_6
              clear HO_8
              clear BK357
              clear HB
              clear HO371
              have HO_5 := n0_
              have HO_6 := n1_
              have HO_8 := n2_
              have BK357 := n3_
              have HB := n4_
              have HO374 := n5_
              clear n0_ n1_ n2_ n3_ n4_ n5_
              clear ho hb hg hat
              refine hK.out _ _ ⟨(zC BK357.out 0).trans rfl, (zC BK357.out 1).trans rfl, (zC BK357.out 2).trans rfl, (zC BK357.out 3).trans rfl, (zC BK357.out 4).trans rfl, (zC BK357.out 5).trans rfl, (zC BK357.out 6).trans rfl⟩ (fun hHeld => ?_)
              clear hK K
              refine norm_ (a' := ?_) ?_ ?_
              rotate_left
              ·show Act.put _ (some 60) _ = _
               simp only [Act.put, List.setIfInBounds_toArray, List.set_cons_zero, List.set_cons_succ, i64_w, i32_w]
               rfl
              refine one_ (i := 4) (N := some 62) #[true, true, true, true, true, false, false] rfl rfl (by kernel_rfl) (by decide) (fun K hK => ?_)
              refine Kd.R_lit_step k46 _ 46 ?hg (N := 62) ?hd (xs := ([(⟨t350, t351, t352, t353, t354, t355, t356⟩ : S46)] : List (S46))) (inner := [.int .i64 t350, .int .i64 t351, .int .i64 t352, .int .i64 t353, .int .i64 t354, .int .i64 t355, .int .i64 t356]) (ok := fun _ => True) (okp := fun _ => True) ?hr ?hp (fun _ hk => hk) trivial (Below.refl _ _) (Nat.le_refl _) (by simp) ?_; (case hd => rfl); (case hg => rfl); (case hr => first | (go_simp; done) | (go_simp; rfl)); (case hp => exact (Reps.c7 (show Kd.M k46 _ _ _ (⟨t350, t351, t352, t353, t354, t355, t356⟩ : S46) [.int .i64 t350, .int .i64 t351, .int .i64 t352, .int .i64 t353, .int .i64 t354, .int .i64 t355, .int .i64 t356] from (k46_mkM _ _ _ (⟨t350, t351, t352, t353, t354, t355, t356⟩ : S46) )) (Reps.none _ _)))
              intro v376 w98 ho99 hb hg_ hnew_
              clear hg_ hnew_
              (first | rw [← Ny375.out] at ho99 | (simp only [Int.reduceToNat] at ho99; rw [← Ny375.out] at ho99))
              have n0_ := qM (Kd.R_elder' (by (with_reducible repeat (first | apply qA | apply qN | apply qD)); exact HO_5.out) (Kd.R_base ho99) hb)
              have n1_ := qM (Kd.R_below (by (with_reducible repeat (first | apply qA | apply qN | apply qD)); exact HO_6.out) hb)
              have n2_ := qM (Kd.R_below (by (with_reducible repeat (first | apply qA | apply qN | apply qD)); exact HO_8.out) hb)
              have n3_ := qM (Kd.R_elder' (by (with_reducible repeat (first | apply qA | apply qN | apply qD)); exact HO374.out) (Kd.R_base ho99) hb)
              have n4_ := qM (Kd.R_lower (Kd.R_newB (Kd.R_new' (Kd.R_new' ho99 (Kd.R_lt (by (with_reducible repeat (first | apply qA | apply qN | apply qD)); exact HO_5.out))) (Kd.R_lt (by (with_reducible repeat (first | apply qA | apply qN | apply qD)); exact HO374.out))) (g := gb357) (o := .cells #[.int .i64 t350, .int .i64 t351, .int .i64 t352, .int .i64 t353, .int .i64 t354, .int .i64 t355, .int .i64 t356] 46 (0, 0)) (by (with_reducible repeat (first | refine zN ?_ _ | refine zD ?_ | refine zA ?_ _)); exact BK357.out)) (below_size (by repeat (first | (with_reducible first | exact HB.out | apply yA | apply yN | apply yD | refine yS ?_ GE357.out) | exact HB.out))))
              have n5_ := qM (blk_below (g := gb357) (o := .cells #[.int .i64 t350, .int .i64 t351, .int .i64 t352, .int .i64 t353, .int .i64 t354, .int .i64 t355, .int .i64 t356] 46 (0, 0)) (by (with_reducible repeat (first | refine zN ?_ _ | refine zD ?_ | refine zA ?_ _)); exact BK357.out) hb)
              have n6_ := qM (below_step (by repeat (first | (with_reducible first | exact HB.out | apply yA | apply yN | apply yD | refine yS ?_ GE357.out) | exact HB.out)) hb)
              clear HO_5
              clear HO_6
              clear HO_8
              clear HO374
              clear BK357
              clear HB
              have HO_5 := n0_
              have HO_6 := n1_
              have HO_8 := n2_
              have HO374 := n3_
              have HO377 := n4_
              have BK357 := n5_
              have HB := n6_
              clear n0_ n1_ n2_ n3_ n4_ n5_ n6_
              clear hb ho99
              refine hK.out _ _ ⟨(zC BK357.out 0).trans rfl, (zC BK357.out 1).trans rfl, (zC BK357.out 2).trans rfl, (zC BK357.out 3).trans rfl, (zC BK357.out 4).trans rfl, (zC BK357.out 5).trans rfl, (zC BK357.out 6).trans rfl⟩ (fun hHeld => ?_)
              clear hK K
              refine norm_ (a' := ?_) ?_ ?_
              rotate_left
              ·show Act.put _ (some 62) _ = _
               simp only [Act.put, List.setIfInBounds_toArray, List.set_cons_zero, List.set_cons_succ, i64_w, i32_w]
               rfl
              exact norm_ (by simp only [putAll, Act.put, List.setIfInBounds_toArray, List.set_cons_zero, List.set_cons_succ]) (hCont (v370, v373, v376) _ ⟨hHeld, (by (with_reducible repeat (first | apply qA | apply qN | apply qD)); exact Kd.R_mono HO374.out (fun _ hk => ⟨hk.2, ⟨hk.1.1, hk.1.2⟩⟩)), (by (with_reducible repeat (first | apply qA | apply qN | apply qD)); exact Kd.R_mono HO377.out (fun _ hk => ⟨hk.1.2, ⟨hk.1.1.2, hk.2⟩⟩)), (by (with_reducible repeat (first | apply qA | apply qN | apply qD)); exact Kd.R_mono HO_5.out (fun _ hk => ⟨hk.1.2, ⟨hk.2, hk.1.1⟩⟩)), (by (with_reducible repeat (first | apply qA | apply qN | apply qD)); exact HO_6.out), (by (with_reducible repeat (first | apply qA | apply qN | apply qD)); exact HO_8.out), (by (with_reducible repeat (first | refine zN ?_ _ | refine zD ?_ | refine zA ?_ _)); exact BK357.out), (by repeat (first | (with_reducible first | exact HB.out | apply yA | apply yN | apply yD | refine yS ?_ GE357.out) | exact HB.out))⟩)
             ·skip
              refine Kd.R_lit_step k46 _ 46 ?hg (N := 62) ?hd (xs := ([(⟨t350, t351, t352, t353, t354, t355, t356⟩ : S46)] : List (S46))) (inner := [.int .i64 t350, .int .i64 t351, .int .i64 t352, .int .i64 t353, .int .i64 t354, .int .i64 t355, .int .i64 t356]) (ok := fun _ => True) (okp := fun _ => True) ?hr ?hp (fun _ hk => hk) trivial (Below.refl _ _) (Nat.le_refl _) (by simp) ?_; (case hd => rfl); (case hg => rfl); (case hr => first | (go_simp; done) | (go_simp; rfl)); (case hp => exact (Reps.c7 (show Kd.M k46 _ _ _ (⟨t350, t351, t352, t353, t354, t355, t356⟩ : S46) [.int .i64 t350, .int .i64 t351, .int .i64 t352, .int .i64 t353, .int .i64 t354, .int .i64 t355, .int .i64 t356] from (k46_mkM _ _ _ (⟨t350, t351, t352, t353, t354, t355, t356⟩ : S46) )) (Reps.none _ _)))
              intro v376 w97 ho98 hb hg_ hnew_
              clear hg_ hnew_
              (first | rw [← Ny375.out] at ho98 | (simp only [Int.reduceToNat] at ho98; rw [← Ny375.out] at ho98))
              have n0_ := qM (Kd.R_elder' (by (with_reducible repeat (first | apply qA | apply qN | apply qD)); exact HO_5.out) (Kd.R_base ho98) hb)
              have n1_ := qM (Kd.R_below (by (with_reducible repeat (first | apply qA | apply qN | apply qD)); exact HO_6.out) hb)
              have n2_ := qM (Kd.R_below (by (with_reducible repeat (first | apply qA | apply qN | apply qD)); exact HO_8.out) hb)
              have n3_ := qM (Kd.R_elder' (by (with_reducible repeat (first | apply qA | apply qN | apply qD)); exact HO371.out) (Kd.R_base ho98) hb)
              have n4_ := qM (Kd.R_lower (Kd.R_newB (Kd.R_new' (Kd.R_new' ho98 (Kd.R_lt (by (with_reducible repeat (first | apply qA | apply qN | apply qD)); exact HO_5.out))) (Kd.R_lt (by (with_reducible repeat (first | apply qA | apply qN | apply qD)); exact HO371.out))) (g := gb357) (o := .cells #[.int .i64 t350, .int .i64 t351, .int .i64 t352, .int .i64 t353, .int .i64 t354, .int .i64 t355, .int .i64 t356] 46 (0, 0)) (by (with_reducible repeat (first | refine zN ?_ _ | refine zD ?_ | refine zA ?_ _)); exact BK357.out)) (below_size (by repeat (first | (with_reducible first | exact HB.out | apply yA | apply yN | apply yD | refine yS ?_ GE357.out) | exact HB.out))))
              have n5_ := qM (blk_below (g := gb357) (o := .cells #[.int .i64 t350, .int .i64 t351, .int .i64 t352, .int .i64 t353, .int .i64 t354, .int .i64 t355, .int .i64 t356] 46 (0, 0)) (by (with_reducible repeat (first | refine zN ?_ _ | refine zD ?_ | refine zA ?_ _)); exact BK357.out) hb)
              have n6_ := qM (below_step (by repeat (first | (with_reducible first | exact HB.out | apply yA | apply yN | apply yD | refine yS ?_ GE357.out) | exact HB.out)) hb)
              clear HO_5
              clear HO_6
              clear HO_8
              clear HO371
              clear BK357
              clear HB
              have HO_5 := n0_
              have HO_6 := n1_
              have HO_8 := n2_
              have HO371 := n3_
              have HO377 := n4_
              have BK357 := n5_
              have HB := n6_
              clear n0_ n1_ n2_ n3_ n4_ n5_ n6_
              clear hb ho98
              refine hK.out _ _ ⟨(zC BK357.out 0).trans rfl, (zC BK357.out 1).trans rfl, (zC BK357.out 2).trans rfl, (zC BK357.out 3).trans rfl, (zC BK357.out 4).trans rfl, (zC BK357.out 5).trans rfl, (zC BK357.out 6).trans rfl⟩ (fun hHeld => ?_)
              clear hK K
              refine norm_ (a' := ?_) ?_ ?_
              rotate_left
              ·show Act.put _ (some 62) _ = _
               simp only [Act.put, List.setIfInBounds_toArray, List.set_cons_zero, List.set_cons_succ, i64_w, i32_w]
               rfl
              refine one_ (i := 2) (N := some 60) #[true, true, true, true, true, false, false] rfl rfl (by kernel_rfl) (by decide) (fun K hK => ?_)
              refine Kd.R_append_rows_step k46 (w0 := w) w.heap.size (by rfl) (.tmp 58) (.tmp 59) 36 46 (.agg #[(.int .i64 0), (.int .i64 0), (.int .i64 0), (.int .i64 0), (.int .i64 0), (.int .i64 0), (.int .i64 0)]) 56 rfl Try.underlying36 info46 rfl (by decide) (by omega) v370 y369 t344 _ _ _ (fun k_ => some k_ ≠ (.slice Ao15 t344.length co15 : Value).ownBlock ∧ some k_ ≠ (v376 : Value).ownBlock ∧ k_ ≠ gb357) (fun _ => False) rfl rfl ?aO ?aR (fun _ _ h => h) (fun _ h => h.elim) ?aF ?aB ?aS ?aL ?_
              (case aR => repeat (first | exact (qR HO_5.out).2.2 | (with_reducible refine Kd.C_alloc ?_ _) | (with_reducible refine Kd.C_drewN ?_ _) | (with_reducible refine Kd.C_drew ?_)))
              (case aB => exact (by repeat (first | (with_reducible first | exact HB.out | apply yA | apply yN | apply yD | refine yS ?_ GE357.out) | exact HB.out)))
              (case aF => exact (fun k_ hk => ⟨Kd.fresh' (Kd.R_lt (by (with_reducible repeat (first | apply qA | apply qN | apply qD)); exact HO_5.out)) k_ hk, Kd.fresh' (Kd.R_lt (by (with_reducible repeat (first | apply qA | apply qN | apply qD)); exact HO377.out)) k_ hk, Kd.freshB (g := gb357) (o := .cells #[.int .i64 t350, .int .i64 t351, .int .i64 t352, .int .i64 t353, .int .i64 t354, .int .i64 t355, .int .i64 t356] 46 (0, 0)) (by (with_reducible repeat (first | refine zN ?_ _ | refine zD ?_ | refine zA ?_ _)); exact BK357.out) k_ hk⟩))
              (case aO => exact (by (with_reducible repeat (first | apply qA | apply qN | apply qD)); exact Kd.R_mono HO371.out (fun _ hk => ⟨hk.1.1.2, ⟨hk.2, hk.1.2⟩⟩)))
              (case aS => exact (below_size (by repeat (first | (with_reducible first | exact HB.out | apply yA | apply yN | apply yD | refine yS ?_ GE357.out) | exact HB.out))))
              (case aL => have := LMc34.out; omega)
              intro v373 w99 ho hb hg hat
              rw [← Ny372.out] at ho
              have n0_ := qM (Kd.R_after (ok := (fun k_ => some k_ ≠ (v376 : Value).ownBlock ∧ k_ ≠ gb357)) (by (with_reducible repeat (first | apply qA | apply qN | apply qD)); exact Kd.R_mono HO_5.out (fun _ hk => ⟨⟨hk.2, hk.1.1⟩, hk.1.2⟩)) hg hat)
              have n1_ := qM (Kd.R_over' (by (with_reducible repeat (first | apply qA | apply qN | apply qD)); exact HO_6.out) (Kd.R_typed (by (with_reducible repeat (first | apply qA | apply qN | apply qD)); exact HO371.out)) (by decide) hg)
              have n2_ := qM (Kd.R_over' (by (with_reducible repeat (first | apply qA | apply qN | apply qD)); exact HO_8.out) (Kd.R_typed (by (with_reducible repeat (first | apply qA | apply qN | apply qD)); exact HO371.out)) (by decide) hg)
              have n3_ := qM (blk_grown (g := gb357) (o := .cells #[.int .i64 t350, .int .i64 t351, .int .i64 t352, .int .i64 t353, .int .i64 t354, .int .i64 t355, .int .i64 t356] 46 (0, 0)) (by (with_reducible repeat (first | refine zN ?_ _ | refine zD ?_ | refine zA ?_ _)); exact BK357.out) hg (Kd.R_away HO371.out (fun _ hk => hk.1.2)))
              have n4_ := qM (Kd.R_after (ok := (fun k_ => some k_ ≠ (.slice Ao15 t344.length co15 : Value).ownBlock ∧ k_ ≠ gb357)) (by (with_reducible repeat (first | apply qA | apply qN | apply qD)); exact Kd.R_mono HO377.out (fun _ hk => ⟨⟨hk.1.1.2, hk.2⟩, hk.1.2⟩)) hg hat)
              have n5_ := qM (hb)
              have n6_ := qM (ho)
              clear HO_5
              clear HO_6
              clear HO_8
              clear BK357
              clear HO377
              clear HB
              clear HO371
              have HO_5 := n0_
              have HO_6 := n1_
              have HO_8 := n2_
              have BK357 := n3_
              have HO377 := n4_
              have HB := n5_
              have HO374 := n6_
              clear n0_ n1_ n2_ n3_ n4_ n5_ n6_
              clear ho hb hg hat
              refine hK.out _ _ ⟨(zC BK357.out 0).trans rfl, (zC BK357.out 1).trans rfl, (zC BK357.out 2).trans rfl, (zC BK357.out 3).trans rfl, (zC BK357.out 4).trans rfl, (zC BK357.out 5).trans rfl, (zC BK357.out 6).trans rfl⟩ (fun hHeld => ?_)
              clear hK K
              refine norm_ (a' := ?_) ?_ ?_
              rotate_left
              ·show Act.put _ (some 60) _ = _
               simp only [Act.put, List.setIfInBounds_toArray, List.set_cons_zero, List.set_cons_succ, i64_w, i32_w]
               rfl
              exact norm_ (by simp only [putAll, Act.put, List.setIfInBounds_toArray, List.set_cons_zero, List.set_cons_succ]) (hCont (v370, v373, v376) _ ⟨hHeld, (by (with_reducible repeat (first | apply qA | apply qN | apply qD)); exact Kd.R_mono HO374.out (fun _ hk => ⟨hk.2.1, ⟨hk.1, hk.2.2⟩⟩)), (by (with_reducible repeat (first | apply qA | apply qN | apply qD)); exact Kd.R_mono HO377.out (fun _ hk => ⟨hk.2, ⟨hk.1.1, hk.1.2⟩⟩)), (by (with_reducible repeat (first | apply qA | apply qN | apply qD)); exact Kd.R_mono HO_5.out (fun _ hk => ⟨hk.2, ⟨hk.1.1, hk.1.2⟩⟩)), (by (with_reducible repeat (first | apply qA | apply qN | apply qD)); exact HO_6.out), (by (with_reducible repeat (first | apply qA | apply qN | apply qD)); exact HO_8.out), (by (with_reducible repeat (first | refine zN ?_ _ | refine zD ?_ | refine zA ?_ _)); exact BK357.out), (by repeat (first | (with_reducible first | exact HB.out | apply yA | apply yN | apply yD | refine yS ?_ GE357.out) | exact HB.out))⟩)
            ·skip
             refine Kd.R_lit_step k46 _ 46 ?hg (N := 62) ?hd (xs := ([(⟨t350, t351, t352, t353, t354, t355, t356⟩ : S46)] : List (S46))) (inner := [.int .i64 t350, .int .i64 t351, .int .i64 t352, .int .i64 t353, .int .i64 t354, .int .i64 t355, .int .i64 t356]) (ok := fun _ => True) (okp := fun _ => True) ?hr ?hp (fun _ hk => hk) trivial (Below.refl _ _) (Nat.le_refl _) (by simp) ?_; (case hd => rfl); (case hg => rfl); (case hr => first | (go_simp; done) | (go_simp; rfl)); (case hp => exact (Reps.c7 (show Kd.M k46 _ _ _ (⟨t350, t351, t352, t353, t354, t355, t356⟩ : S46) [.int .i64 t350, .int .i64 t351, .int .i64 t352, .int .i64 t353, .int .i64 t354, .int .i64 t355, .int .i64 t356] from (k46_mkM _ _ _ (⟨t350, t351, t352, t353, t354, t355, t356⟩ : S46) )) (Reps.none _ _)))
             intro v376 w95 ho96 hb hg_ hnew_
             clear hg_ hnew_
             (first | rw [← Ny375.out] at ho96 | (simp only [Int.reduceToNat] at ho96; rw [← Ny375.out] at ho96))
             have n0_ := qM (Kd.R_elder' (by (with_reducible repeat (first | apply qA | apply qN | apply qD)); exact HO_5.out) (Kd.R_base ho96) hb)
             have n1_ := qM (Kd.R_below (by (with_reducible repeat (first | apply qA | apply qN | apply qD)); exact HO_6.out) hb)
             have n2_ := qM (Kd.R_below (by (with_reducible repeat (first | apply qA | apply qN | apply qD)); exact HO_8.out) hb)
             have n3_ := qM (Kd.R_lower (Kd.R_newB (Kd.R_new' ho96 (Kd.R_lt (by (with_reducible repeat (first | apply qA | apply qN | apply qD)); exact HO_5.out))) (g := gb357) (o := .cells #[.int .i64 t350, .int .i64 t351, .int .i64 t352, .int .i64 t353, .int .i64 t354, .int .i64 t355, .int .i64 t356] 46 (0, 0)) (by (with_reducible repeat (first | refine zN ?_ _ | refine zD ?_ | refine zA ?_ _)); exact BK357.out)) (below_size (by repeat (first | (with_reducible first | exact HB.out | apply yA | apply yN | apply yD | refine yS ?_ GE357.out) | exact HB.out))))
             have n4_ := qM (blk_below (g := gb357) (o := .cells #[.int .i64 t350, .int .i64 t351, .int .i64 t352, .int .i64 t353, .int .i64 t354, .int .i64 t355, .int .i64 t356] 46 (0, 0)) (by (with_reducible repeat (first | refine zN ?_ _ | refine zD ?_ | refine zA ?_ _)); exact BK357.out) hb)
             have n5_ := qM (below_step (by repeat (first | (with_reducible first | exact HB.out | apply yA | apply yN | apply yD | refine yS ?_ GE357.out) | exact HB.out)) hb)
             clear HO_5
             clear HO_6
             clear HO_8
             clear BK357
             clear HB
             have HO_5 := n0_
             have HO_6 := n1_
             have HO_8 := n2_
             have HO377 := n3_
             have BK357 := n4_
             have HB := n5_
             clear n0_ n1_ n2_ n3_ n4_ n5_
             clear hb ho96
             refine hK.out _ _ ⟨(zC BK357.out 0).trans rfl, (zC BK357.out 1).trans rfl, (zC BK357.out 2).trans rfl, (zC BK357.out 3).trans rfl, (zC BK357.out 4).trans rfl, (zC BK357.out 5).trans rfl, (zC BK357.out 6).trans rfl⟩ (fun hHeld => ?_)
             clear hK K
             refine norm_ (a' := ?_) ?_ ?_
             rotate_left
             ·show Act.put _ (some 62) _ = _
              simp only [Act.put, List.setIfInBounds_toArray, List.set_cons_zero, List.set_cons_succ, i64_w, i32_w]
              rfl
             refine one_ (i := 0) (N := some 58) #[true, true, false, true, true, false, false] rfl rfl (by kernel_rfl) (by decide) (fun K hK => ?_)
             refine Kd.R_lit_step k46 _ 46 ?hg (N := 58) ?hd (xs := ([] : List (S46))) (inner := []) (ok := fun _ => True) (okp := fun _ => True) ?hr ?hp (fun _ hk => hk) trivial (Below.refl _ _) (Nat.le_refl _) (by simp) ?_; (case hd => rfl); (case hg => rfl); (case hr => first | (go_simp; done) | (go_simp; rfl)); (case hp => exact (Reps.none _ _))
             intro v370 w97 ho98 hb hg_ hnew_
             clear hg_ hnew_
             (first | rw [← Ny369.out] at ho98 | (simp only [Int.reduceToNat] at ho98; rw [← Ny369.out] at ho98))
             have n0_ := qM (Kd.R_elder' (by (with_reducible repeat (first | apply qA | apply qN | apply qD)); exact HO_5.out) (Kd.R_base ho98) hb)
             have n1_ := qM (Kd.R_below (by (with_reducible repeat (first | apply qA | apply qN | apply qD)); exact HO_6.out) hb)
             have n2_ := qM (Kd.R_below (by (with_reducible repeat (first | apply qA | apply qN | apply qD)); exact HO_8.out) hb)
             have n3_ := qM (Kd.R_elder' (by (with_reducible repeat (first | apply qA | apply qN | apply qD)); exact HO377.out) (Kd.R_base ho98) hb)
             have n4_ := qM (Kd.R_lower (Kd.R_newB (Kd.R_new' (Kd.R_new' ho98 (Kd.R_lt (by (with_reducible repeat (first | apply qA | apply qN | apply qD)); exact HO_5.out))) (Kd.R_lt (by (with_reducible repeat (first | apply qA | apply qN | apply qD)); exact HO377.out))) (g := gb357) (o := .cells #[.int .i64 t350, .int .i64 t351, .int .i64 t352, .int .i64 t353, .int .i64 t354, .int .i64 t355, .int .i64 t356] 46 (0, 0)) (by (with_reducible repeat (first | refine zN ?_ _ | refine zD ?_ | refine zA ?_ _)); exact BK357.out)) (below_size (by repeat (first | (with_reducible first | exact HB.out | apply yA | apply yN | apply yD | refine yS ?_ GE357.out) | exact HB.out))))
             have n5_ := qM (blk_below (g := gb357) (o := .cells #[.int .i64 t350, .int .i64 t351, .int .i64 t352, .int .i64 t353, .int .i64 t354, .int .i64 t355, .int .i64 t356] 46 (0, 0)) (by (with_reducible repeat (first | refine zN ?_ _ | refine zD ?_ | refine zA ?_ _)); exact BK357.out) hb)
             have n6_ := qM (below_step (by repeat (first | (with_reducible first | exact HB.out | apply yA | apply yN | apply yD | refine yS ?_ GE357.out) | exact HB.out)) hb)
             clear HO_5
             clear HO_6
             clear HO_8
             clear HO377
             clear BK357
             clear HB
             have HO_5 := n0_
             have HO_6 := n1_
             have HO_8 := n2_
             have HO377 := n3_
             have HO371 := n4_
             have BK357 := n5_
             have HB := n6_
             clear n0_ n1_ n2_ n3_ n4_ n5_ n6_
             clear hb ho98
             refine hK.out _ _ ⟨(zC BK357.out 0).trans rfl, (zC BK357.out 1).trans rfl, (zC BK357.out 2).trans rfl, (zC BK357.out 3).trans rfl, (zC BK357.out 4).trans rfl, (zC BK357.out 5).trans rfl, (zC BK357.out 6).trans rfl⟩ (fun hHeld => ?_)
             clear hK K
             refine norm_ (a' := ?_) ?_ ?_
             rotate_left
             ·show Act.put _ (some 58) _ = _
              simp only [Act.put, List.setIfInBounds_toArray, List.set_cons_zero, List.set_cons_succ, i64_w, i32_w]
              rfl
             refine one_ (i := 2) (N := some 60) #[true, true, true, true, true, false, false] rfl rfl (by kernel_rfl) (by decide) (fun K hK => ?_)
             refine Kd.R_append_rows_step k46 (w0 := w) w.heap.size (by rfl) (.tmp 58) (.tmp 59) 36 46 (.agg #[(.int .i64 0), (.int .i64 0), (.int .i64 0), (.int .i64 0), (.int .i64 0), (.int .i64 0), (.int .i64 0)]) 56 rfl Try.underlying36 info46 rfl (by decide) (by omega) v370 y369 t344 _ _ _ (fun k_ => some k_ ≠ (.slice Ao15 t344.length co15 : Value).ownBlock ∧ some k_ ≠ (v376 : Value).ownBlock ∧ k_ ≠ gb357) (fun _ => False) rfl rfl ?aO ?aR (fun _ _ h => h) (fun _ h => h.elim) ?aF ?aB ?aS ?aL ?_
             (case aR => repeat (first | exact (qR HO_5.out).2.2 | (with_reducible refine Kd.C_alloc ?_ _) | (with_reducible refine Kd.C_drewN ?_ _) | (with_reducible refine Kd.C_drew ?_)))
             (case aB => exact (by repeat (first | (with_reducible first | exact HB.out | apply yA | apply yN | apply yD | refine yS ?_ GE357.out) | exact HB.out)))
             (case aF => exact (fun k_ hk => ⟨Kd.fresh' (Kd.R_lt (by (with_reducible repeat (first | apply qA | apply qN | apply qD)); exact HO_5.out)) k_ hk, Kd.fresh' (Kd.R_lt (by (with_reducible repeat (first | apply qA | apply qN | apply qD)); exact HO377.out)) k_ hk, Kd.freshB (g := gb357) (o := .cells #[.int .i64 t350, .int .i64 t351, .int .i64 t352, .int .i64 t353, .int .i64 t354, .int .i64 t355, .int .i64 t356] 46 (0, 0)) (by (with_reducible repeat (first | refine zN ?_ _ | refine zD ?_ | refine zA ?_ _)); exact BK357.out) k_ hk⟩))
             (case aO => exact (by (with_reducible repeat (first | apply qA | apply qN | apply qD)); exact Kd.R_mono HO371.out (fun _ hk => ⟨hk.1.1.2, ⟨hk.1.2, hk.2⟩⟩)))
             (case aS => exact (below_size (by repeat (first | (with_reducible first | exact HB.out | apply yA | apply yN | apply yD | refine yS ?_ GE357.out) | exact HB.out))))
             (case aL => have := LMc34.out; omega)
             intro v373 w99 ho hb hg hat
             rw [← Ny372.out] at ho
             have n0_ := qM (Kd.R_after (ok := (fun k_ => some k_ ≠ (v376 : Value).ownBlock ∧ k_ ≠ gb357)) (by (with_reducible repeat (first | apply qA | apply qN | apply qD)); exact Kd.R_mono HO_5.out (fun _ hk => ⟨⟨hk.1.2, hk.1.1⟩, hk.2⟩)) hg hat)
             have n1_ := qM (Kd.R_over' (by (with_reducible repeat (first | apply qA | apply qN | apply qD)); exact HO_6.out) (Kd.R_typed (by (with_reducible repeat (first | apply qA | apply qN | apply qD)); exact HO371.out)) (by decide) hg)
             have n2_ := qM (Kd.R_over' (by (with_reducible repeat (first | apply qA | apply qN | apply qD)); exact HO_8.out) (Kd.R_typed (by (with_reducible repeat (first | apply qA | apply qN | apply qD)); exact HO371.out)) (by decide) hg)
             have n3_ := qM (blk_grown (g := gb357) (o := .cells #[.int .i64 t350, .int .i64 t351, .int .i64 t352, .int .i64 t353, .int .i64 t354, .int .i64 t355, .int .i64 t356] 46 (0, 0)) (by (with_reducible repeat (first | refine zN ?_ _ | refine zD ?_ | refine zA ?_ _)); exact BK357.out) hg (Kd.R_away HO371.out (fun _ hk => hk.2)))
             have n4_ := qM (Kd.R_after (ok := (fun k_ => some k_ ≠ (.slice Ao15 t344.length co15 : Value).ownBlock ∧ k_ ≠ gb357)) (by (with_reducible repeat (first | apply qA | apply qN | apply qD)); exact Kd.R_mono HO377.out (fun _ hk => ⟨⟨hk.1.1.2, hk.1.2⟩, hk.2⟩)) hg hat)
             have n5_ := qM (hb)
             have n6_ := qM (ho)
             clear HO_5
             clear HO_6
             clear HO_8
             clear BK357
             clear HO377
             clear HB
             clear HO371
             have HO_5 := n0_
             have HO_6 := n1_
             have HO_8 := n2_
             have BK357 := n3_
             have HO377 := n4_
             have HB := n5_
             have HO374 := n6_
             clear n0_ n1_ n2_ n3_ n4_ n5_ n6_
             clear ho hb hg hat
             refine hK.out _ _ ⟨(zC BK357.out 0).trans rfl, (zC BK357.out 1).trans rfl, (zC BK357.out 2).trans rfl, (zC BK357.out 3).trans rfl, (zC BK357.out 4).trans rfl, (zC BK357.out 5).trans rfl, (zC BK357.out 6).trans rfl⟩ (fun hHeld => ?_)
             clear hK K
             refine norm_ (a' := ?_) ?_ ?_
             rotate_left
             ·show Act.put _ (some 60) _ = _
              simp only [Act.put, List.setIfInBounds_toArray, List.set_cons_zero, List.set_cons_succ, i64_w, i32_w]
              rfl
             exact norm_ (by simp only [putAll, Act.put, List.setIfInBounds_toArray, List.set_cons_zero, List.set_cons_succ]) (hCont (v370, v373, v376) _ ⟨hHeld, (by (with_reducible repeat (first | apply qA | apply qN | apply qD)); exact Kd.R_mono HO374.out (fun _ hk => ⟨hk.2.1, ⟨hk.1, hk.2.2⟩⟩)), (by (with_reducible repeat (first | apply qA | apply qN | apply qD)); exact Kd.R_mono HO377.out (fun _ hk => ⟨hk.2, ⟨hk.1.1, hk.1.2⟩⟩)), (by (with_reducible repeat (first | apply qA | apply qN | apply qD)); exact Kd.R_mono HO_5.out (fun _ hk => ⟨hk.2, ⟨hk.1.1, hk.1.2⟩⟩)), (by (with_reducible repeat (first | apply qA | apply qN | apply qD)); exact HO_6.out), (by (with_reducible repeat (first | apply qA | apply qN | apply qD)); exact HO_8.out), (by (with_reducible repeat (first | refine zN ?_ _ | refine zD ?_ | refine zA ?_ _)); exact BK357.out), (by repeat (first | (with_reducible first | exact HB.out | apply yA | apply yN | apply yD | refine yS ?_ GE357.out) | exact HB.out))⟩)
           rintro ⟨v370, v373, v376⟩ w100 ⟨hS_, h0_, h1_, h2_, h3_, h4_, h5_, h6_⟩
           have n0_ : Aside0 (Kd.R k46 46 w100 w.heap.size (fun k_ => some k_ ≠ (v376 : Value).ownBlock ∧ some k_ ≠ (.slice Ao15 t344.length co15 : Value).ownBlock ∧ k_ ≠ gb357) v373 y372) := ⟨h0_⟩
           have n1_ : Aside0 (Kd.R k46 46 w100 w.heap.size (fun k_ => some k_ ≠ (v373 : Value).ownBlock ∧ some k_ ≠ (.slice Ao15 t344.length co15 : Value).ownBlock ∧ k_ ≠ gb357) v376 y375) := ⟨h1_⟩
           have n2_ : Aside0 (Kd.R k46 46 w100 w.heap.size (fun k_ => some k_ ≠ (v373 : Value).ownBlock ∧ some k_ ≠ (v376 : Value).ownBlock ∧ k_ ≠ gb357) (.slice Ao15 t344.length co15) t344) := ⟨h2_⟩
           have n3_ : Aside0 (Kd.R (Kd.int .u8) 5 w100 w.heap.size (fun k_ => some k_ ≠ (v360 : Value).ownBlock) (.slice Ao16 t345.length co16) t345) := ⟨h3_⟩
           have n4_ : Aside0 (Kd.R (Kd.int .u8) 5 w100 w.heap.size (fun k_ => some k_ ≠ (.slice Ao16 t345.length co16 : Value).ownBlock) v360 t358) := ⟨h4_⟩
           have n5_ : Aside0 (w100.heap[gb357]? = some (.cells #[.int .i64 t350, .int .i64 t351, .int .i64 t352, .int .i64 t353, .int .i64 t354, .int .i64 t355, .int .i64 t356] 46 (0, 0))) := ⟨h5_⟩
           have n6_ : Aside0 (Below w.heap.size w w100) := ⟨h6_⟩
           clear HO_5
           clear HO_6
           clear HO_8
           clear BK357
           clear HB
           clear h0_ h1_ h2_ h3_ h4_ h5_ h6_
           have HO374 := n0_
           have HO377 := n1_
           have HO_5 := n2_
           have HO_6 := n3_
           have HO_8 := n4_
           have BK357 := n5_
           have HB := n6_
           clear n0_ n1_ n2_ n3_ n4_ n5_ n6_
           have hHeld : w100.cell? ⟨gb357, 0, none⟩ = some (.int .i64 t350) ∧ w100.cell? ⟨gb357, 1, none⟩ = some (.int .i64 t351) ∧ w100.cell? ⟨gb357, 2, none⟩ = some (.int .i64 t352) ∧ w100.cell? ⟨gb357, 3, none⟩ = some (.int .i64 t353) ∧ w100.cell? ⟨gb357, 4, none⟩ = some (.int .i64 t354) ∧ w100.cell? ⟨gb357, 5, none⟩ = some (.int .i64 t355) ∧ w100.cell? ⟨gb357, 6, none⟩ = some (.int .i64 t356) := hS_
           obtain ⟨Ao102, co102, eo102⟩ := Kd.R_slice HO377.out
           (first | subst eo102 | (injection eo102 with f1_ f2_ f3_; have f4_ := f1_.symm; have f5_ := f3_.symm; clear f1_ f2_ f3_; subst f4_; subst f5_))
           refine norm_ (a' := ?_) ?_ ?_
           rotate_left
           ·simp only [putAll, Act.put, List.setIfInBounds_toArray, List.set_cons_zero, List.set_cons_succ]
            rfl
           refine one_ (i := 5) (N := some 63) #[true, true, true, true, true, true, false] rfl rfl (by kernel_rfl) (by decide) (fun K hK => ?_)
           refine Kd.R_append_rows_step k46 (w0 := w) w.heap.size (by rfl) (.tmp 60) (.tmp 62) 36 46 (.agg #[(.int .i64 0), (.int .i64 0), (.int .i64 0), (.int .i64 0), (.int .i64 0), (.int .i64 0), (.int .i64 0)]) 56 rfl Try.underlying36 info46 rfl (by decide) (by omega) v373 y372 y375 _ _ _ (fun k_ => some k_ ≠ (.slice Ao15 t344.length co15 : Value).ownBlock ∧ some k_ ≠ (.slice Ao102 y375.length co102 : Value).ownBlock ∧ k_ ≠ gb357) (fun _ => False) rfl rfl ?aO ?aR (fun _ _ h => h) (fun _ h => h.elim) ?aF ?aB ?aS ?aL ?_
           (case aR => repeat (first | exact (qR HO377.out).2.2 | (with_reducible refine Kd.C_alloc ?_ _) | (with_reducible refine Kd.C_drewN ?_ _) | (with_reducible refine Kd.C_drew ?_)))
           (case aB => exact (by repeat (first | (with_reducible first | exact HB.out | apply yA | apply yN | apply yD | refine yS ?_ GE357.out) | exact HB.out)))
           (case aF => exact (fun k_ hk => ⟨Kd.fresh' (Kd.R_lt (by (with_reducible repeat (first | apply qA | apply qN | apply qD)); exact HO_5.out)) k_ hk, Kd.fresh' (Kd.R_lt (by (with_reducible repeat (first | apply qA | apply qN | apply qD)); exact HO377.out)) k_ hk, Kd.freshB (g := gb357) (o := .cells #[.int .i64 t350, .int .i64 t351, .int .i64 t352, .int .i64 t353, .int .i64 t354, .int .i64 t355, .int .i64 t356] 46 (0, 0)) (by (with_reducible repeat (first | refine zN ?_ _ | refine zD ?_ | refine zA ?_ _)); exact BK357.out) k_ hk⟩))
           (case aO => exact (by (with_reducible repeat (first | apply qA | apply qN | apply qD)); exact Kd.R_mono HO374.out (fun _ hk => ⟨hk.2.1, ⟨hk.1, hk.2.2⟩⟩)))
           (case aS => exact (below_size (by repeat (first | (with_reducible first | exact HB.out | apply yA | apply yN | apply yD | refine yS ?_ GE357.out) | exact HB.out))))
           (case aL => have := LMc35.out; omega)
           intro v379 w101 ho hb hg hat
           rw [← Ny378.out] at ho
           have n0_ := qM (Kd.R_after (ok := (fun k_ => some k_ ≠ (.slice Ao102 y375.length co102 : Value).ownBlock ∧ k_ ≠ gb357)) (by (with_reducible repeat (first | apply qA | apply qN | apply qD)); exact Kd.R_mono HO_5.out (fun _ hk => ⟨⟨hk.2.1, hk.2.2⟩, hk.1⟩)) hg hat)
           have n1_ := qM (Kd.R_over' (by (with_reducible repeat (first | apply qA | apply qN | apply qD)); exact HO_6.out) (Kd.R_typed (by (with_reducible repeat (first | apply qA | apply qN | apply qD)); exact HO374.out)) (by decide) hg)
           have n2_ := qM (Kd.R_over' (by (with_reducible repeat (first | apply qA | apply qN | apply qD)); exact HO_8.out) (Kd.R_typed (by (with_reducible repeat (first | apply qA | apply qN | apply qD)); exact HO374.out)) (by decide) hg)
           have n3_ := qM (blk_grown (g := gb357) (o := .cells #[.int .i64 t350, .int .i64 t351, .int .i64 t352, .int .i64 t353, .int .i64 t354, .int .i64 t355, .int .i64 t356] 46 (0, 0)) (by (with_reducible repeat (first | refine zN ?_ _ | refine zD ?_ | refine zA ?_ _)); exact BK357.out) hg (Kd.R_away HO374.out (fun _ hk => hk.2.2)))
           have n4_ := qM (Kd.R_after (ok := (fun k_ => some k_ ≠ (.slice Ao15 t344.length co15 : Value).ownBlock ∧ k_ ≠ gb357)) (by (with_reducible repeat (first | apply qA | apply qN | apply qD)); exact Kd.R_mono HO377.out (fun _ hk => ⟨⟨hk.2.1, hk.2.2⟩, hk.1⟩)) hg hat)
           have n5_ := qM (hb)
           have n6_ := qM (ho)
           clear HO_5
           clear HO_6
           clear HO_8
           clear BK357
           clear HO377
           clear HB
           clear HO374
           have HO_5 := n0_
           have HO_6 := n1_
           have HO_8 := n2_
           have BK357 := n3_
           have HO377 := n4_
           have HB := n5_
           have HO380 := n6_
           clear n0_ n1_ n2_ n3_ n4_ n5_ n6_
           clear ho hb hg hat
           refine hK.out _ _ ⟨(zC BK357.out 0).trans rfl, (zC BK357.out 1).trans rfl, (zC BK357.out 2).trans rfl, (zC BK357.out 3).trans rfl, (zC BK357.out 4).trans rfl, (zC BK357.out 5).trans rfl, (zC BK357.out 6).trans rfl⟩ (fun hHeld => ?_)
           clear hK K
           refine norm_ (a' := ?_) ?_ ?_
           rotate_left
           ·show Act.put _ (some 63) _ = _
            simp only [Act.put, List.setIfInBounds_toArray, List.set_cons_zero, List.set_cons_succ, i64_w, i32_w]
            rfl
           refine pure_ (i := 6) (N := some 12) (v := ?_) (a' := ?_) #[true, true, true, true, true, true, true] rfl rfl (by kernel_rfl) (fun _ _ _ h => h) (Or.inl ⟨by rfl, ?_⟩) ?_ ?_
           rotate_left
           ·intro w'
            go_simp
            with_reducible rfl
           rotate_left
           ·simp only [Act.put, List.setIfInBounds_toArray, List.set_cons_zero, List.set_cons_succ, i64_w, i32_w]
            rfl
           refine done_ (by kernel_rfl) ?_
           obtain ⟨Ao103, co103, eo103⟩ := Kd.R_slice HO380.out
           subst eo103
           try go_wp2_with (first | ((with_reducible refine gate_callee (f := 24) rfl ?_); refine goesL_ (some 67) rfl rfl Try.func24 (by kernel_rfl) rfl #[.slice Ao103 y378.length co103, .slice Ao16 t345.length co16] rfl (by (try simp only [List.map_toArray, List.map_cons, List.map_nil]); first | done | rfl | (simp only [List.length_drop, List.length_take]; rfl)) ?_; (with_reducible refine (impl_GrdDo.calls _ _ y378 _ _ t345 t381 false _ ?side1 ?side2 ?side3 ?side4 A36.out).mono ?_); (case side1 => repeat (first | exact (qR HO380.out).2.2 | (with_reducible refine Kd.C_alloc ?_ _) | (with_reducible refine Kd.C_drewN ?_ _) | (with_reducible refine Kd.C_drew ?_))); (case side2 => exact (qR HO380.out).2.1); (case side3 => repeat (first | exact (qR HO_6.out).2.2 | (with_reducible refine Kd.C_alloc ?_ _) | (with_reducible refine Kd.C_drewN ?_ _) | (with_reducible refine Kd.C_drew ?_))); (case side4 => exact (qR HO_6.out).2.1); rintro e w104 ⟨v383, rfl, ho0, hb⟩; refine ⟨_, rfl, ?_⟩; have n0_ := qM (Kd.R_below (by (with_reducible repeat (first | apply qA | apply qN | apply qD)); exact HO_5.out) hb); have n1_ := qM (Kd.R_elder' (by (with_reducible repeat (first | apply qA | apply qN | apply qD)); exact HO_6.out) (Kd.R_base ho0) hb); have n2_ := qM (Kd.R_elder' (by (with_reducible repeat (first | apply qA | apply qN | apply qD)); exact HO_8.out) (Kd.R_base ho0) hb); have n3_ := qM (Kd.R_below (by (with_reducible repeat (first | apply qA | apply qN | apply qD)); exact HO377.out) hb); have n4_ := qM (Kd.R_below (by (with_reducible repeat (first | apply qA | apply qN | apply qD)); exact HO380.out) hb); have n5_ := qM (Kd.R_lower (Kd.R_new' (Kd.R_new' ho0 (Kd.R_lt (by (with_reducible repeat (first | apply qA | apply qN | apply qD)); exact HO_6.out))) (Kd.R_lt (by (with_reducible repeat (first | apply qA | apply qN | apply qD)); exact HO_8.out))) (below_size (by repeat (first | (with_reducible first | exact HB.out | apply yA | apply yN | apply yD | refine yS ?_ GE357.out) | exact HB.out)))); have n6_ := qM (blk_below (g := gb357) (o := .cells #[.int .i64 t350, .int .i64 t351, .int .i64 t352, .int .i64 t353, .int .i64 t354, .int .i64 t355, .int .i64 t356] 46 (0, 0)) (by (with_reducible repeat (first | refine zN ?_ _ | refine zD ?_ | refine zA ?_ _)); exact BK357.out) hb); have n7_ := qM (below_step (by repeat (first | (with_reducible first | exact HB.out | apply yA | apply yN | apply yD | refine yS ?_ GE357.out) | exact HB.out)) hb); clear HO_5; clear HO_6; clear HO_8; clear HO377; clear HO380; clear BK357; clear HB; have HO_5 := n0_; have HO_6 := n1_; have HO_8 := n2_; have HO377 := n3_; have HO380 := n4_; have HO384 := n5_; have BK357 := n6_; have HB := n7_; clear n0_ n1_ n2_ n3_ n4_ n5_ n6_ n7_; (try clear hb); (try clear hb2); (try clear hk); (try clear hi); (try clear ho0)) | ((with_reducible refine gate_callee (f := 28) rfl ?_); refine goesL_ (some 71) rfl rfl Try.func28 (by kernel_rfl) rfl #[.slice Ao103 y378.length co103] rfl (by (try simp only [List.map_toArray, List.map_cons, List.map_nil]); first | done | rfl | (simp only [List.length_drop, List.length_take]; rfl)) ?_; (with_reducible refine (spec_GrdOk.calls kj9 _ _ y378 false _ ?side1 ?side2 A37.out).mono ?_); (case side1 => repeat (first | exact (qR HO380.out).2.2 | (with_reducible refine Kd.C_alloc ?_ _) | (with_reducible refine Kd.C_drewN ?_ _) | (with_reducible refine Kd.C_drew ?_))); (case side2 => exact (qR HO380.out).2.1); rintro e w105 ⟨rfl, hb⟩; refine ⟨_, rfl, ?_⟩; have n0_ := qM (Kd.R_below (by (with_reducible repeat (first | apply qA | apply qN | apply qD)); exact HO_5.out) hb); have n1_ := qM (Kd.R_below (by (with_reducible repeat (first | apply qA | apply qN | apply qD)); exact HO_6.out) hb); have n2_ := qM (Kd.R_below (by (with_reducible repeat (first | apply qA | apply qN | apply qD)); exact HO_8.out) hb); have n3_ := qM (Kd.R_below (by (with_reducible repeat (first | apply qA | apply qN | apply qD)); exact HO377.out) hb); have n4_ := qM (Kd.R_below (by (with_reducible repeat (first | apply qA | apply qN | apply qD)); exact HO380.out) hb); have n5_ := qM (Kd.R_below (by (with_reducible repeat (first | apply qA | apply qN | apply qD)); exact HO384.out) hb); have n6_ := qM (blk_below (g := gb357) (o := .cells #[.int .i64 t350, .int .i64 t351, .int .i64 t352, .int .i64 t353, .int .i64 t354, .int .i64 t355, .int .i64 t356] 46 (0, 0)) (by (with_reducible repeat (first | refine zN ?_ _ | refine zD ?_ | refine zA ?_ _)); exact BK357.out) hb); have n7_ := qM (below_step (by repeat (first | (with_reducible first | exact HB.out | apply yA | apply yN | apply yD | refine yS ?_ GE357.out) | exact HB.out)) hb); clear HO_5; clear HO_6; clear HO_8; clear HO377; clear HO380; clear HO384; clear BK357; clear HB; have HO_5 := n0_; have HO_6 := n1_; have HO_8 := n2_; have HO377 := n3_; have HO380 := n4_; have HO384 := n5_; have BK357 := n6_; have HB := n7_; clear n0_ n1_ n2_ n3_ n4_ n5_ n6_ n7_; (try clear hb); (try clear hb2); (try clear hk); (try clear hi)) | (go_at_call 33; (with_reducible refine (impl_GrdRuleOk.calls 0 0 0 0 0 0 0 t387 _ A93.out).mono ?_); rintro e w106 ⟨rfl, hb⟩; have n0_ := qM (Kd.R_below (by (with_reducible repeat (first | apply qA | apply qN | apply qD)); exact HO_5.out) hb); have n1_ := qM (Kd.R_below (by (with_reducible repeat (first | apply qA | apply qN | apply qD)); exact HO_6.out) hb); have n2_ := qM (Kd.R_below (by (with_reducible repeat (first | apply qA | apply qN | apply qD)); exact HO_8.out) hb); have n3_ := qM (Kd.R_below (by (with_reducible repeat (first | apply qA | apply qN | apply qD)); exact HO377.out) hb); have n4_ := qM (Kd.R_below (by (with_reducible repeat (first | apply qA | apply qN | apply qD)); exact HO380.out) hb); have n5_ := qM (Kd.R_below (by (with_reducible repeat (first | apply qA | apply qN | apply qD)); exact HO384.out) hb); have n6_ := qM (blk_below (g := gb357) (o := .cells #[.int .i64 t350, .int .i64 t351, .int .i64 t352, .int .i64 t353, .int .i64 t354, .int .i64 t355, .int .i64 t356] 46 (0, 0)) (by (with_reducible repeat (first | refine zN ?_ _ | refine zD ?_ | refine zA ?_ _)); exact BK357.out) hb); have n7_ := qM (below_step (by repeat (first | (with_reducible first | exact HB.out | apply yA | apply yN | apply yD | refine yS ?_ GE357.out) | exact HB.out)) hb); clear HO_5; clear HO_6; clear HO_8; clear HO377; clear HO380; clear HO384; clear BK357; clear HB; have HO_5 := n0_; have HO_6 := n1_; have HO_8 := n2_; have HO377 := n3_; have HO380 := n4_; have HO384 := n5_; have BK357 := n6_; have HB := n7_; clear n0_ n1_ n2_ n3_ n4_ n5_ n6_ n7_; (try clear hb); (try clear hb2); (try clear hk); (try clear hi)))
           go_ret
           exact ⟨by first | rfl | (simp [errW_none, errW_some] <;> rfl) | (simp [*, errW_none, errW_some] <;> rfl), by repeat (first | (with_reducible first | exact HB.out | apply yA | apply yN | apply yD | refine yS ?_ GE357.out) | exact HB.out)⟩
        ·rw [if_neg c35] at H
         exact absurd H (by simp)
       ·rw [if_neg c34] at H
        exact absurd H (by simp)

/-- THE ONE PURE STATEMENT of laws_FnGrdMore. -/
def laws_FnGrdMore.Pure : Prop := ∀ (l0 : List Int) (l1 : List Int), l0.length ≤ maxLen → (∀ x ∈ l0, (Lit.int .u8 x).wf = true) → l1.length ≤ maxLen → (∀ x ∈ l1, (Lit.int .u8 x).wf = true) → ∃ k, laws_FnGrdMore.f k l0 l1 = some true

end Go.Proofs.Ytlmlbodbloahlaa.PFnGrdMore
