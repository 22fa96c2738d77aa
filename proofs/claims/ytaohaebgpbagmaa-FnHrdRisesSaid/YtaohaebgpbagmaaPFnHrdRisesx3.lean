/- Functions that a law reaches, each with the walk that shows what its call answers; laid by a program of this session. -/
import Derived.Test.YtaohaebgpbagmaaPFnHrdRisesx0
import Derived.Test.YtaohaebgpbagmaaPFnHrdRisesx1
import Derived.Test.YtaohaebgpbagmaaPFnHrdRisesx2
namespace Go.Proofs.Ytaohaebgpbagmaa.PFnHrdRises
open Go.RowKit Go.Proofs.YtaohaebgpbagmaaW.PrintWords Go.Proofs.YtaohaebgpbagmaaW.PrintLast Go.Proofs.YtaohaebgpbagmaaW.PrintMore
attribute [local go_sem] max2_int min2_int max_two min_two max_three min_three max_four min_four   -- for this text's walks alone
set_option linter.unusedVariables false
set_option linter.unusedSimpArgs false

open Go.Proofs.YtaohaebgpbagmaaAl
/-! ### spec_DrawHrdHear: function 25 -/
def spec_DrawHrdHear.j0 : Nat → Int → Int → Int → Bool → List Int → Int → List Int → List Int → Option (List Int × List Int × Int × Int × Int)
 | 0, _, _, _, _, _, _, _, _ => none
 | k + 1, x8, x9, x10, x48, x177000, x177001, x185000, x185001 => if x48 = true then (if 0 ≤ x8 then (if x8 < (x185000.length : Int) then ((some (([0, 0, 1] : List Int) : List Int)).bind fun y202 => ((spec_l30Rd_pick.f k x177000 x177001 3).bind fun bt205 => (if 0 ≤ bt205.1 then (if bt205.1 < (y202.length : Int) then (if x8 < (x185001.length : Int) then ((some (([0, 1, 1, (-1)] : List Int) : List Int)).bind fun y209 => ((spec_l30Rd_pick.f k x177000 bt205.2 4).bind fun bt212 => (if 0 ≤ bt212.1 then (if bt212.1 < (y209.length : Int) then (some (x185000, x185001, x8, wrap64 ((rd x185000 x8) + (rd y202 bt205.1)), wrap64 ((rd x185001 x8) + (rd y209 bt212.1)))) else (none)) else (none)))) else (none)) else (none)) else (none)))) else (none)) else (none)) else (some (x185000, x185001, x8, x9, x10))
def spec_DrawHrdHear.f (k : Nat) (l0 : List Int) : Option (List Int × List Int × Int × Int × Int) := (spec_l30Open.f l0).bind fun bt174 => ((spec_l31Book.f k bt174.1 bt174.2).bind fun bt177 => ((some (([0, 0, 1, 2, 3, 4, (-1)] : List Int) : List Int)).bind fun y185 => ((spec_l30Rd_pick.f k bt174.1 bt177.2.2 7).bind fun bt188 => (if 0 ≤ bt188.1 then (if bt188.1 < (y185.length : Int) then ((spec_l30Rd_pick.f k bt174.1 bt188.2 4).bind fun bt191 => ((some (([0, 1, 2, 3, 31, 60000, 60001, (-1)] : List Int) : List Int)).bind fun y193 => ((spec_l30Rd_pick.f k bt174.1 bt191.2 8).bind fun bt196 => (if 0 ≤ bt196.1 then (if bt196.1 < (y193.length : Int) then (if (rd y185 bt188.1) ≥ 0 then (if (rd y185 bt188.1) < (bt177.1.length : Int) then (if (rd y185 bt188.1) < (bt177.2.1.length : Int) then ((spec_l30Rd_pick.f k bt174.1 bt196.2 2).bind fun bt199 => (spec_DrawHrdHear.j0 k (rd y185 bt188.1) (wrap64 (1 + bt191.1)) (rd y193 bt196.1) (bt199.1 == 0) bt174.1 bt199.2 bt177.1 bt177.2.1)) else (spec_DrawHrdHear.j0 k (rd y185 bt188.1) (wrap64 (1 + bt191.1)) (rd y193 bt196.1) false bt174.1 bt196.2 bt177.1 bt177.2.1)) else (spec_DrawHrdHear.j0 k (rd y185 bt188.1) (wrap64 (1 + bt191.1)) (rd y193 bt196.1) false bt174.1 bt196.2 bt177.1 bt177.2.1)) else (spec_DrawHrdHear.j0 k (rd y185 bt188.1) (wrap64 (1 + bt191.1)) (rd y193 bt196.1) false bt174.1 bt196.2 bt177.1 bt177.2.1)) else (none)) else (none))))) else (none)) else (none)))))
theorem spec_DrawHrdHear.mono_l : ∀ k, (∀ y0 y1 y2 y3 y4 y5 y6 y7, LeO (spec_DrawHrdHear.j0 k y0 y1 y2 y3 y4 y5 y6 y7) (spec_DrawHrdHear.j0 (k + 1) y0 y1 y2 y3 y4 y5 y6 y7))
 | 0 => fun _ _ _ _ _ _ _ _ r h => by simp [spec_DrawHrdHear.j0] at h
 | k + 1 => by
  have ih0 := spec_DrawHrdHear.mono_l k
  ·intro y0 y1 y2 y3 y4 y5 y6 y7
   unfold spec_DrawHrdHear.j0
   repeat' first
   | (with_reducible exact ih0 _ _ _ _ _ _ _ _)
   | (with_reducible exact spec_l30Rd_pick.mono _ _ _ _)
   | (with_reducible exact spec_l31Book.mono _ _ _)
   | (with_reducible exact LeO.refl _)
   | (with_reducible exact LeO.none _)
   | (with_reducible refine LeO.ite ?_ ?_)
   | (with_reducible refine LeO.bind ?_ (fun _ => ?_))
   | exact ih0 _ _ _ _ _ _ _ _
   | exact spec_l30Rd_pick.mono _ _ _ _
   | exact spec_l31Book.mono _ _ _
   | exact LeO.none _
   | refine LeO.ite ?_ ?_
   | refine LeO.bind ?_ (fun _ => ?_)
theorem spec_DrawHrdHear.mono : ∀ a0 k, LeO (spec_DrawHrdHear.f k a0) (spec_DrawHrdHear.f (k + 1) a0) := by
 intro a0 k
 have ih0 := spec_DrawHrdHear.mono_l k
 unfold spec_DrawHrdHear.f
 repeat' first
   | (with_reducible exact ih0 _ _ _ _ _ _ _ _)
   | (with_reducible exact spec_l30Rd_pick.mono _ _ _ _)
   | (with_reducible exact spec_l31Book.mono _ _ _)
   | (with_reducible exact LeO.refl _)
   | (with_reducible exact LeO.none _)
   | (with_reducible refine LeO.ite ?_ ?_)
   | (with_reducible refine LeO.bind ?_ (fun _ => ?_))
   | exact ih0 _ _ _ _ _ _ _ _
   | exact spec_l30Rd_pick.mono _ _ _ _
   | exact spec_l31Book.mono _ _ _
   | exact LeO.none _
   | refine LeO.ite ?_ ?_
   | refine LeO.bind ?_ (fun _ => ?_)
def spec_DrawHrdHear.T7 : Bool × List (List Nat × List Nat) := (true, [([], []), ([0], [0]), ([], []), ([1, 2], [1, 2]), ([3], [3]), ([], []), ([], []), ([6], [6]), ([5, 7], [5, 7]), ([8], [8]), ([4, 9], [4, 9]), ([10, 7, 0, 1, 2, 3, 4, 5, 6, 7, 8, 9, 10], [10])])
def spec_DrawHrdHear.B7 : List Nat := [0, 1, 0, 7, 15, 0, 0, 64, 224, 480, 1023, 2047]
theorem spec_DrawHrdHear.tab7 : rtab .any (opsOf Try.f25 7) = spec_DrawHrdHear.T7 := by kernel_rfl
theorem spec_DrawHrdHear.bits7 : waitsOk spec_DrawHrdHear.T7.2 spec_DrawHrdHear.B7 = true := by kernel_rfl
def spec_DrawHrdHear.T8 : Bool × List (List Nat × List Nat) := (true, [([], []), ([0], [0]), ([], []), ([1, 2], [1, 2]), ([3], [3]), ([], []), ([], []), ([6], [6]), ([5, 7], [5, 7]), ([8], [8]), ([4, 9], [4, 9]), ([10, 7, 0, 1, 2, 3, 4, 5, 6, 7, 8, 9, 10], [10])])
def spec_DrawHrdHear.B8 : List Nat := [0, 1, 0, 7, 15, 0, 0, 64, 224, 480, 1023, 2047]
theorem spec_DrawHrdHear.tab8 : rtab .any (opsOf Try.f25 8) = spec_DrawHrdHear.T8 := by kernel_rfl
theorem spec_DrawHrdHear.bits8 : waitsOk spec_DrawHrdHear.T8.2 spec_DrawHrdHear.B8 = true := by kernel_rfl
set_option maxHeartbeats 8000000 in
set_option maxRecDepth 100000 in
theorem spec_DrawHrdHear.calls (k : Nat) (A0 : Option Addr) (c0 : Nat) (l0 : List Int) (r1 : List Int) (r2 : List Int) (r3 : Int) (r4 : Int) (r5 : Int) (w : World) (hr0 : Kd.C (Kd.int .u8) w A0 l0.length l0) (hc0 : l0.length ≤ c0) (h : spec_DrawHrdHear.f k l0 = some (r1, r2, r3, r4, r5)) :
  Calls Try.prog 25 #[.slice A0 l0.length c0] w fun e w' => ∃ v0_ v1_ : Value, e = .returned (.tuple #[.agg #[v0_, v1_], .int .i64 r3, .int .i64 r4, .int .i64 r5]) ∧ Kd.R (Kd.int .i64) 3 w' w.heap.size (fun k_ => some k_ ≠ (v1_ : Value).ownBlock) v0_ r1 ∧ Kd.R (Kd.int .i64) 3 w' w.heap.size (fun k_ => some k_ ≠ (v0_ : Value).ownBlock) v1_ r2 ∧ Below w.heap.size w w' := by
 have hu37 := Try.underlying37
 have HR0 := qM hr0
 have HC0 := qM hc0
 clear hr0 hc0
 have HB := qM (Below.refl w.heap.size w)
 have H : ((spec_l30Open.f l0).bind fun bt174 => ((spec_l31Book.f k bt174.1 bt174.2).bind fun bt177 => ((some (([0, 0, 1, 2, 3, 4, (-1)] : List Int) : List Int)).bind fun y185 => ((spec_l30Rd_pick.f k bt174.1 bt177.2.2 7).bind fun bt188 => (if 0 ≤ bt188.1 then (if bt188.1 < (y185.length : Int) then ((spec_l30Rd_pick.f k bt174.1 bt188.2 4).bind fun bt191 => ((some (([0, 1, 2, 3, 31, 60000, 60001, (-1)] : List Int) : List Int)).bind fun y193 => ((spec_l30Rd_pick.f k bt174.1 bt191.2 8).bind fun bt196 => (if 0 ≤ bt196.1 then (if bt196.1 < (y193.length : Int) then (if (rd y185 bt188.1) ≥ 0 then (if (rd y185 bt188.1) < (bt177.1.length : Int) then (if (rd y185 bt188.1) < (bt177.2.1.length : Int) then ((spec_l30Rd_pick.f k bt174.1 bt196.2 2).bind fun bt199 => (spec_DrawHrdHear.j0 k (rd y185 bt188.1) (wrap64 (1 + bt191.1)) (rd y193 bt196.1) (bt199.1 == 0) bt174.1 bt199.2 bt177.1 bt177.2.1)) else (spec_DrawHrdHear.j0 k (rd y185 bt188.1) (wrap64 (1 + bt191.1)) (rd y193 bt196.1) false bt174.1 bt196.2 bt177.1 bt177.2.1)) else (spec_DrawHrdHear.j0 k (rd y185 bt188.1) (wrap64 (1 + bt191.1)) (rd y193 bt196.1) false bt174.1 bt196.2 bt177.1 bt177.2.1)) else (spec_DrawHrdHear.j0 k (rd y185 bt188.1) (wrap64 (1 + bt191.1)) (rd y193 bt196.1) false bt174.1 bt196.2 bt177.1 bt177.2.1)) else (none)) else (none))))) else (none)) else (none)))))) = some (r1, r2, r3, r4, r5) := h
 clear h
 replace H := Option.bind_eq_some_iff.mp H
 obtain ⟨⟨t174, t175⟩, A20, H⟩ := H
 replace H : ((spec_l31Book.f k t174 t175).bind fun bt177 => ((some (([0, 0, 1, 2, 3, 4, (-1)] : List Int) : List Int)).bind fun y185 => ((spec_l30Rd_pick.f k t174 bt177.2.2 7).bind fun bt188 => (if 0 ≤ bt188.1 then (if bt188.1 < (y185.length : Int) then ((spec_l30Rd_pick.f k t174 bt188.2 4).bind fun bt191 => ((some (([0, 1, 2, 3, 31, 60000, 60001, (-1)] : List Int) : List Int)).bind fun y193 => ((spec_l30Rd_pick.f k t174 bt191.2 8).bind fun bt196 => (if 0 ≤ bt196.1 then (if bt196.1 < (y193.length : Int) then (if (rd y185 bt188.1) ≥ 0 then (if (rd y185 bt188.1) < (bt177.1.length : Int) then (if (rd y185 bt188.1) < (bt177.2.1.length : Int) then ((spec_l30Rd_pick.f k t174 bt196.2 2).bind fun bt199 => (spec_DrawHrdHear.j0 k (rd y185 bt188.1) (wrap64 (1 + bt191.1)) (rd y193 bt196.1) (bt199.1 == 0) t174 bt199.2 bt177.1 bt177.2.1)) else (spec_DrawHrdHear.j0 k (rd y185 bt188.1) (wrap64 (1 + bt191.1)) (rd y193 bt196.1) false t174 bt196.2 bt177.1 bt177.2.1)) else (spec_DrawHrdHear.j0 k (rd y185 bt188.1) (wrap64 (1 + bt191.1)) (rd y193 bt196.1) false t174 bt196.2 bt177.1 bt177.2.1)) else (spec_DrawHrdHear.j0 k (rd y185 bt188.1) (wrap64 (1 + bt191.1)) (rd y193 bt196.1) false t174 bt196.2 bt177.1 bt177.2.1)) else (none)) else (none))))) else (none)) else (none))))) = some (r1, r2, r3, r4, r5) := H
 have A2 := qM A20
 clear A20
 replace H := Option.bind_eq_some_iff.mp H
 obtain ⟨⟨t177, t180, t183⟩, A30, H⟩ := H
 replace H : ((some (([0, 0, 1, 2, 3, 4, (-1)] : List Int) : List Int)).bind fun y185 => ((spec_l30Rd_pick.f k t174 t183 7).bind fun bt188 => (if 0 ≤ bt188.1 then (if bt188.1 < (y185.length : Int) then ((spec_l30Rd_pick.f k t174 bt188.2 4).bind fun bt191 => ((some (([0, 1, 2, 3, 31, 60000, 60001, (-1)] : List Int) : List Int)).bind fun y193 => ((spec_l30Rd_pick.f k t174 bt191.2 8).bind fun bt196 => (if 0 ≤ bt196.1 then (if bt196.1 < (y193.length : Int) then (if (rd y185 bt188.1) ≥ 0 then (if (rd y185 bt188.1) < (t177.length : Int) then (if (rd y185 bt188.1) < (t180.length : Int) then ((spec_l30Rd_pick.f k t174 bt196.2 2).bind fun bt199 => (spec_DrawHrdHear.j0 k (rd y185 bt188.1) (wrap64 (1 + bt191.1)) (rd y193 bt196.1) (bt199.1 == 0) t174 bt199.2 t177 t180)) else (spec_DrawHrdHear.j0 k (rd y185 bt188.1) (wrap64 (1 + bt191.1)) (rd y193 bt196.1) false t174 bt196.2 t177 t180)) else (spec_DrawHrdHear.j0 k (rd y185 bt188.1) (wrap64 (1 + bt191.1)) (rd y193 bt196.1) false t174 bt196.2 t177 t180)) else (spec_DrawHrdHear.j0 k (rd y185 bt188.1) (wrap64 (1 + bt191.1)) (rd y193 bt196.1) false t174 bt196.2 t177 t180)) else (none)) else (none))))) else (none)) else (none)))) = some (r1, r2, r3, r4, r5) := H
 have A3 := qM A30
 clear A30
 obtain ⟨y185, hy185⟩ : ∃ y_ : List Int, y_ = (([0, 0, 1, 2, 3, 4, (-1)] : List Int)) := ⟨_, rfl⟩
 replace H : ((spec_l30Rd_pick.f k t174 t183 7).bind fun bt188 => (if 0 ≤ bt188.1 then (if bt188.1 < (y185.length : Int) then ((spec_l30Rd_pick.f k t174 bt188.2 4).bind fun bt191 => ((some (([0, 1, 2, 3, 31, 60000, 60001, (-1)] : List Int) : List Int)).bind fun y193 => ((spec_l30Rd_pick.f k t174 bt191.2 8).bind fun bt196 => (if 0 ≤ bt196.1 then (if bt196.1 < (y193.length : Int) then (if (rd y185 bt188.1) ≥ 0 then (if (rd y185 bt188.1) < (t177.length : Int) then (if (rd y185 bt188.1) < (t180.length : Int) then ((spec_l30Rd_pick.f k t174 bt196.2 2).bind fun bt199 => (spec_DrawHrdHear.j0 k (rd y185 bt188.1) (wrap64 (1 + bt191.1)) (rd y193 bt196.1) (bt199.1 == 0) t174 bt199.2 t177 t180)) else (spec_DrawHrdHear.j0 k (rd y185 bt188.1) (wrap64 (1 + bt191.1)) (rd y193 bt196.1) false t174 bt196.2 t177 t180)) else (spec_DrawHrdHear.j0 k (rd y185 bt188.1) (wrap64 (1 + bt191.1)) (rd y193 bt196.1) false t174 bt196.2 t177 t180)) else (spec_DrawHrdHear.j0 k (rd y185 bt188.1) (wrap64 (1 + bt191.1)) (rd y193 bt196.1) false t174 bt196.2 t177 t180)) else (none)) else (none))))) else (none)) else (none))) = some (r1, r2, r3, r4, r5) := by first | (rw [hy185]; with_reducible exact H) | (have H2_ := (Option.bind_some _ _).symm.trans H; rw [hy185]; with_reducible exact H2_) | (have H2_ := (Option.bind_some _ _).symm.trans H; with_reducible exact H2_) | with_reducible exact H | (rw [hy185]; exact H) | exact H
 have Ny185 := qM hy185
 clear hy185
 replace H := Option.bind_eq_some_iff.mp H
 obtain ⟨⟨t188, t189⟩, A40, H⟩ := H
 replace H : (if 0 ≤ t188 then (if t188 < (y185.length : Int) then ((spec_l30Rd_pick.f k t174 t189 4).bind fun bt191 => ((some (([0, 1, 2, 3, 31, 60000, 60001, (-1)] : List Int) : List Int)).bind fun y193 => ((spec_l30Rd_pick.f k t174 bt191.2 8).bind fun bt196 => (if 0 ≤ bt196.1 then (if bt196.1 < (y193.length : Int) then (if (rd y185 t188) ≥ 0 then (if (rd y185 t188) < (t177.length : Int) then (if (rd y185 t188) < (t180.length : Int) then ((spec_l30Rd_pick.f k t174 bt196.2 2).bind fun bt199 => (spec_DrawHrdHear.j0 k (rd y185 t188) (wrap64 (1 + bt191.1)) (rd y193 bt196.1) (bt199.1 == 0) t174 bt199.2 t177 t180)) else (spec_DrawHrdHear.j0 k (rd y185 t188) (wrap64 (1 + bt191.1)) (rd y193 bt196.1) false t174 bt196.2 t177 t180)) else (spec_DrawHrdHear.j0 k (rd y185 t188) (wrap64 (1 + bt191.1)) (rd y193 bt196.1) false t174 bt196.2 t177 t180)) else (spec_DrawHrdHear.j0 k (rd y185 t188) (wrap64 (1 + bt191.1)) (rd y193 bt196.1) false t174 bt196.2 t177 t180)) else (none)) else (none))))) else (none)) else (none)) = some (r1, r2, r3, r4, r5) := H
 have A4 := qM A40
 clear A40
 by_cases c5 : 0 ≤ t188
 ·rw [if_pos c5] at H
  have c5b0 : decide (0 ≤ t188) = true := decide_eq_true c5
  clear c5
  by_cases c6 : t188 < (y185.length : Int)
  ·rw [if_pos c6] at H
   have c6b0 : decide (t188 < (y185.length : Int)) = true := decide_eq_true c6
   clear c6
   replace H := Option.bind_eq_some_iff.mp H
   obtain ⟨⟨t191, t192⟩, A70, H⟩ := H
   replace H : ((some (([0, 1, 2, 3, 31, 60000, 60001, (-1)] : List Int) : List Int)).bind fun y193 => ((spec_l30Rd_pick.f k t174 t192 8).bind fun bt196 => (if 0 ≤ bt196.1 then (if bt196.1 < (y193.length : Int) then (if (rd y185 t188) ≥ 0 then (if (rd y185 t188) < (t177.length : Int) then (if (rd y185 t188) < (t180.length : Int) then ((spec_l30Rd_pick.f k t174 bt196.2 2).bind fun bt199 => (spec_DrawHrdHear.j0 k (rd y185 t188) (wrap64 (1 + t191)) (rd y193 bt196.1) (bt199.1 == 0) t174 bt199.2 t177 t180)) else (spec_DrawHrdHear.j0 k (rd y185 t188) (wrap64 (1 + t191)) (rd y193 bt196.1) false t174 bt196.2 t177 t180)) else (spec_DrawHrdHear.j0 k (rd y185 t188) (wrap64 (1 + t191)) (rd y193 bt196.1) false t174 bt196.2 t177 t180)) else (spec_DrawHrdHear.j0 k (rd y185 t188) (wrap64 (1 + t191)) (rd y193 bt196.1) false t174 bt196.2 t177 t180)) else (none)) else (none)))) = some (r1, r2, r3, r4, r5) := H
   have A7 := qM A70
   clear A70
   obtain ⟨y193, hy193⟩ : ∃ y_ : List Int, y_ = (([0, 1, 2, 3, 31, 60000, 60001, (-1)] : List Int)) := ⟨_, rfl⟩
   replace H : ((spec_l30Rd_pick.f k t174 t192 8).bind fun bt196 => (if 0 ≤ bt196.1 then (if bt196.1 < (y193.length : Int) then (if (rd y185 t188) ≥ 0 then (if (rd y185 t188) < (t177.length : Int) then (if (rd y185 t188) < (t180.length : Int) then ((spec_l30Rd_pick.f k t174 bt196.2 2).bind fun bt199 => (spec_DrawHrdHear.j0 k (rd y185 t188) (wrap64 (1 + t191)) (rd y193 bt196.1) (bt199.1 == 0) t174 bt199.2 t177 t180)) else (spec_DrawHrdHear.j0 k (rd y185 t188) (wrap64 (1 + t191)) (rd y193 bt196.1) false t174 bt196.2 t177 t180)) else (spec_DrawHrdHear.j0 k (rd y185 t188) (wrap64 (1 + t191)) (rd y193 bt196.1) false t174 bt196.2 t177 t180)) else (spec_DrawHrdHear.j0 k (rd y185 t188) (wrap64 (1 + t191)) (rd y193 bt196.1) false t174 bt196.2 t177 t180)) else (none)) else (none))) = some (r1, r2, r3, r4, r5) := by first | (rw [hy193]; with_reducible exact H) | (have H2_ := (Option.bind_some _ _).symm.trans H; rw [hy193]; with_reducible exact H2_) | (have H2_ := (Option.bind_some _ _).symm.trans H; with_reducible exact H2_) | with_reducible exact H | (rw [hy193]; exact H) | exact H
   have Ny193 := qM hy193
   clear hy193
   replace H := Option.bind_eq_some_iff.mp H
   obtain ⟨⟨t196, t197⟩, A80, H⟩ := H
   replace H : (if 0 ≤ t196 then (if t196 < (y193.length : Int) then (if (rd y185 t188) ≥ 0 then (if (rd y185 t188) < (t177.length : Int) then (if (rd y185 t188) < (t180.length : Int) then ((spec_l30Rd_pick.f k t174 t197 2).bind fun bt199 => (spec_DrawHrdHear.j0 k (rd y185 t188) (wrap64 (1 + t191)) (rd y193 t196) (bt199.1 == 0) t174 bt199.2 t177 t180)) else (spec_DrawHrdHear.j0 k (rd y185 t188) (wrap64 (1 + t191)) (rd y193 t196) false t174 t197 t177 t180)) else (spec_DrawHrdHear.j0 k (rd y185 t188) (wrap64 (1 + t191)) (rd y193 t196) false t174 t197 t177 t180)) else (spec_DrawHrdHear.j0 k (rd y185 t188) (wrap64 (1 + t191)) (rd y193 t196) false t174 t197 t177 t180)) else (none)) else (none)) = some (r1, r2, r3, r4, r5) := H
   have A8 := qM A80
   clear A80
   by_cases c9 : 0 ≤ t196
   ·rw [if_pos c9] at H
    have c9b0 : decide (0 ≤ t196) = true := decide_eq_true c9
    clear c9
    by_cases c10 : t196 < (y193.length : Int)
    ·rw [if_pos c10] at H
     have c10b0 : decide (t196 < (y193.length : Int)) = true := decide_eq_true c10
     clear c10
     have HC11 := qM H
     clear H
     go_enter Try.func25, Try.ntmps25
     go_upto_region 6 with (first | ((with_reducible refine gate_dst (N := 2) rfl ?_); (try (refine gate_guard (by rfl) ?_; dsimp only)); refine box_event ?hg (N := 2) ?hd (cs := #[.slice none 0 0, .slice none 0 0]) (t := 37) ?hr ?_; (case hd => rfl); (case hg => rfl); (case hr => first | (go_simp; done) | (go_simp; rfl)); intro gb173 hg w12 hbox hb; have n0_ := qM (below_step (by repeat (first | (with_reducible first | exact HB.out | apply yA | apply yN | apply yD) | exact HB.out)) hb); have n1_ := qM (hbox); have n2_ := qM ((by rw [hg]; exact (below_size (by repeat (first | (with_reducible first | exact HB.out | apply yA | apply yN | apply yD) | exact HB.out))) : w.heap.size ≤ gb173)); have n3_ := qM ((by rw [hg]; exact (below_size (by repeat (first | (with_reducible first | exact HB.out | apply yA | apply yN | apply yD) | exact HB.out))) : w.heap.size ≤ gb173)); clear HB; have HB := n0_; have BK173 := n1_; have GW173 := n2_; have GE173 := n3_; clear n0_ n1_ n2_ n3_; clear hb hbox hg) | ((with_reducible refine gate_callee (f := 47) rfl ?_); refine goesL_ (some 12) rfl rfl Try.func47 (by kernel_rfl) rfl #[.slice A0 l0.length c0] rfl (by (try simp only [List.map_toArray, List.map_cons, List.map_nil]); first | done | rfl | (simp only [List.length_drop, List.length_take]; rfl)) ?_; (with_reducible refine (spec_l30Open.calls _ _ l0 t174 t175 w _ ?side1 ?side2 ?side3 A2.out).mono ?_); (case side1 => repeat (first | (with_reducible first | exact HB.out | apply yA | apply yN | apply yD | refine yS ?_ GE173.out) | exact HB.out)); (case side2 => exact HR0.out); (case side3 => exact HC0.out); rintro e w13 ⟨g176, rfl, hi, hb, hb2⟩; refine ⟨_, rfl, ?_⟩; have n0_ := qM (blk_below (g := gb173) (o := .cells #[.slice none 0 0, .slice none 0 0] 37 (0, 0)) (by (with_reducible repeat (first | refine zN ?_ _ | refine zD ?_ | refine zA ?_ _)); exact BK173.out) hb2); have n1_ := qM (hb); have n2_ := qM (hi); have n3_ := qM (IsS93.ne_blk hi (blk_below (g := gb173) (o := .cells #[.slice none 0 0, .slice none 0 0] 37 (0, 0)) (by (with_reducible repeat (first | refine zN ?_ _ | refine zD ?_ | refine zA ?_ _)); exact BK173.out) hb2) (by decide)); have n4_ := qM (Ne.symm (IsS93.ne_blk hi (blk_below (g := gb173) (o := .cells #[.slice none 0 0, .slice none 0 0] 37 (0, 0)) (by (with_reducible repeat (first | refine zN ?_ _ | refine zD ?_ | refine zA ?_ _)); exact BK173.out) hb2) (by decide))); clear BK173; clear HB; have BK173 := n0_; have HB := n1_; have HI176 := n2_; have NB176_173 := n3_; have NB173_176 := n4_; clear n0_ n1_ n2_ n3_ n4_; (try clear hb); (try clear hb2); (try clear hk); (try clear hi)) | ((with_reducible refine gate_callee (f := 52) rfl ?_); refine goesL_ (some 14) rfl rfl Try.func52 (by kernel_rfl) rfl #[.pointer (some ⟨g176, 0, none⟩)] rfl (by (try simp only [List.map_toArray, List.map_cons, List.map_nil]); first | done | rfl | (simp only [List.length_drop, List.length_take]; rfl)) ?_; (with_reducible refine (spec_l31Book.calls k g176 t174 t175 t177 t180 t183 w _ ?side1 ?side2 A3.out).mono ?_); (case side1 => repeat (first | (with_reducible first | exact HI176.out | apply IsS93.alloc | apply IsS93.drewN | apply IsS93.drew | apply IsS93.set_1 | refine IsS93.far ?_ NB176_173.out _) | exact HI176.out)); (case side2 => repeat (first | (with_reducible first | exact HB.out | apply yA | apply yN | apply yD | refine yS ?_ (IsS93.ge HI176.out) | refine yS ?_ GE173.out) | exact HB.out)); rintro e w14 ⟨v178, v181, rfl, ho0, ho1, hi, hb, hk⟩; refine ⟨_, rfl, ?_⟩; have n0_ := qM (KeepBut.blk hk (g' := gb173) (o := .cells #[.slice none 0 0, .slice none 0 0] 37 (0, 0)) (by (with_reducible repeat (first | refine zN ?_ _ | refine zD ?_ | refine zA ?_ _)); exact BK173.out) NB173_176.out (by simp)); have n1_ := qM (Kd.R_lower ho0 (below_size (by repeat (first | (with_reducible first | exact HB.out | apply yA | apply yN | apply yD | refine yS ?_ (IsS93.ge HI176.out) | refine yS ?_ GE173.out) | exact HB.out)))); have n2_ := qM (Kd.R_lower ho1 (below_size (by repeat (first | (with_reducible first | exact HB.out | apply yA | apply yN | apply yD | refine yS ?_ (IsS93.ge HI176.out) | refine yS ?_ GE173.out) | exact HB.out)))); have n3_ := qM (hb); have n4_ := qM (hi); clear BK173; clear HB; clear HI176; have BK173 := n0_; have HO179 := n1_; have HO182 := n2_; have HB := n3_; have HI176 := n4_; clear n0_ n1_ n2_ n3_ n4_; (try clear hb); (try clear hb2); (try clear hk); (try clear hi); (try clear ho0); (try clear ho1)) | ((with_reducible refine gate_dst (N := 7) rfl ?_); (try (refine gate_guard (by rfl) ?_; dsimp only)); refine box_event ?hg (N := 7) ?hd (cs := #[.slice none 0 0, .slice none 0 0]) (t := 37) ?hr ?_; (case hd => rfl); (case hg => rfl); (case hr => first | (go_simp; done) | (go_simp; rfl)); intro gb184 hg w15 hbox hb; have n0_ := qM (Kd.R_below (by (with_reducible repeat (first | apply qA | apply qN | apply qD)); exact HO179.out) hb); have n1_ := qM (Kd.R_below (by (with_reducible repeat (first | apply qA | apply qN | apply qD)); exact HO182.out) hb); have n2_ := qM (blk_below (g := gb173) (o := .cells #[.slice none 0 0, .slice none 0 0] 37 (0, 0)) (by (with_reducible repeat (first | refine zN ?_ _ | refine zD ?_ | refine zA ?_ _)); exact BK173.out) hb); have n3_ := qM (IsS93.below (by repeat (first | (with_reducible first | exact HI176.out | apply IsS93.alloc | apply IsS93.drewN | apply IsS93.drew | apply IsS93.set_1 | refine IsS93.far ?_ NB176_173.out _) | exact HI176.out)) hb); have n4_ := qM (below_step (by repeat (first | (with_reducible first | exact HB.out | apply yA | apply yN | apply yD | refine yS ?_ (IsS93.ge HI176.out) | refine yS ?_ GE173.out) | exact HB.out)) hb); have n5_ := qM (hbox); have n6_ := qM ((by rw [hg]; exact (below_size (by repeat (first | (with_reducible first | exact HB.out | apply yA | apply yN | apply yD | refine yS ?_ (IsS93.ge HI176.out) | refine yS ?_ GE173.out) | exact HB.out))) : w.heap.size ≤ gb184)); have n7_ := qM ((by rw [hg]; exact (below_size (by repeat (first | (with_reducible first | exact HB.out | apply yA | apply yN | apply yD | refine yS ?_ (IsS93.ge HI176.out) | refine yS ?_ GE173.out) | exact HB.out))) : w.heap.size ≤ gb184)); have n8_ := qM ((by rw [hg]; exact Nat.ne_of_lt (blk_lt (g := gb173) (o := .cells #[.slice none 0 0, .slice none 0 0] 37 (0, 0)) (by (with_reducible repeat (first | refine zN ?_ _ | refine zD ?_ | refine zA ?_ _)); exact BK173.out)) : gb173 ≠ gb184)); have n9_ := qM ((by rw [hg]; exact Nat.ne_of_gt (blk_lt (g := gb173) (o := .cells #[.slice none 0 0, .slice none 0 0] 37 (0, 0)) (by (with_reducible repeat (first | refine zN ?_ _ | refine zD ?_ | refine zA ?_ _)); exact BK173.out)) : gb184 ≠ gb173)); have n10_ := qM ((by rw [hg]; exact Nat.ne_of_lt (IsS93.lt (show IsS93 w _ g176 t174 t183 from by repeat (first | (with_reducible first | exact HI176.out | apply IsS93.alloc | apply IsS93.drewN | apply IsS93.drew | apply IsS93.set_1 | refine IsS93.far ?_ NB176_173.out _) | exact HI176.out))) : g176 ≠ gb184)); have n11_ := qM ((by rw [hg]; exact Nat.ne_of_gt (IsS93.lt (show IsS93 w _ g176 t174 t183 from by repeat (first | (with_reducible first | exact HI176.out | apply IsS93.alloc | apply IsS93.drewN | apply IsS93.drew | apply IsS93.set_1 | refine IsS93.far ?_ NB176_173.out _) | exact HI176.out))) : gb184 ≠ g176)); clear HO179; clear HO182; clear BK173; clear HI176; clear HB; have HO179 := n0_; have HO182 := n1_; have BK173 := n2_; have HI176 := n3_; have HB := n4_; have BK184 := n5_; have GW184 := n6_; have GE184 := n7_; have NB173_184 := n8_; have NB184_173 := n9_; have NB176_184 := n10_; have NB184_176 := n11_; clear n0_ n1_ n2_ n3_ n4_ n5_ n6_ n7_ n8_ n9_ n10_ n11_; clear hb hbox hg; obtain ⟨Ao16, co16, eo16⟩ := Kd.R_slice HO179.out; subst eo16; have hnb17 := NB184_173.out; have hnc17 := NB173_184.out; have hnb18 := NB184_176.out; have hnc18 := NB176_184.out; have hcz19_0 : w15.cell? ⟨gb184, 0, none⟩ = some (.slice none 0 0) := (zC BK184.out 0).trans rfl; have hcz19_1 : w15.cell? ⟨gb184, 1, none⟩ = some (.slice none 0 0) := (zC BK184.out 1).trans rfl; have hfz19_0 := zF BK184.out 0; have hfz19_1 := zF BK184.out 1; obtain ⟨Ao20, co20, eo20⟩ := Kd.R_slice HO182.out; subst eo20) | ((with_reducible refine gate_dst (N := 15) rfl ?_); (try (refine gate_guard (by rfl) ?_; dsimp only)); refine Kd.R_lit (Kd.int .i64) _ 3 ?hg (N := 15) ?hd (xs := ([0, 0, 1, 2, 3, 4, (-1)] : List Int)) (inner := [.int .i64 0, .int .i64 0, .int .i64 1, .int .i64 2, .int .i64 3, .int .i64 4, .int .i64 (-1)]) (ok := fun _ => True) (okp := fun _ => True) ?hr ?hp (fun _ hk => hk) trivial (Below.refl _ _) (Nat.le_refl _) (by simp) ?_; (case hd => rfl); (case hg => rfl); (case hr => first | (go_simp; done) | (go_simp; rfl)); (case hp => exact (Reps.one (show Kd.M (Kd.int .i64) _ _ _ 0 [.int .i64 0] from rfl) (Reps.one (show Kd.M (Kd.int .i64) _ _ _ 0 [.int .i64 0] from rfl) (Reps.one (show Kd.M (Kd.int .i64) _ _ _ 1 [.int .i64 1] from rfl) (Reps.one (show Kd.M (Kd.int .i64) _ _ _ 2 [.int .i64 2] from rfl) (Reps.one (show Kd.M (Kd.int .i64) _ _ _ 3 [.int .i64 3] from rfl) (Reps.one (show Kd.M (Kd.int .i64) _ _ _ 4 [.int .i64 4] from rfl) (Reps.one (show Kd.M (Kd.int .i64) _ _ _ (-1) [.int .i64 (-1)] from rfl) (Reps.none _ _))))))))); intro v186 w21 ho22 hb hg_ hnew_; clear hg_ hnew_; (first | rw [← Ny185.out] at ho22 | (simp only [Int.reduceToNat] at ho22; rw [← Ny185.out] at ho22)); have n0_ := qM (Kd.R_elder' (by (with_reducible repeat (first | apply qA | apply qN | apply qD)); exact (Kd.R_mono (qF (p := ⟨gb184, 1, none⟩) (qF (p := ⟨gb184, 0, none⟩) (Kd.R_types HO179.out BK184.out (by decide)) (fun _ hk => hk.2) (.slice Ao16 t177.length co16)) (fun _ hk => hk.2) (.slice Ao20 t180.length co20)) (fun _ h_ => h_.1))) (Kd.R_base ho22) hb); have n1_ := qM (Kd.R_elder' (by (with_reducible repeat (first | apply qA | apply qN | apply qD)); exact (Kd.R_mono (qF (p := ⟨gb184, 1, none⟩) (qF (p := ⟨gb184, 0, none⟩) (Kd.R_types HO182.out BK184.out (by decide)) (fun _ hk => hk.2) (.slice Ao16 t177.length co16)) (fun _ hk => hk.2) (.slice Ao20 t180.length co20)) (fun _ h_ => h_.1))) (Kd.R_base ho22) hb); have n2_ := qM (Kd.R_lower (Kd.R_new' (Kd.R_new' ho22 (Kd.R_lt (by (with_reducible repeat (first | apply qA | apply qN | apply qD)); exact (Kd.R_mono (qF (p := ⟨gb184, 1, none⟩) (qF (p := ⟨gb184, 0, none⟩) (Kd.R_types HO179.out BK184.out (by decide)) (fun _ hk => hk.2) (.slice Ao16 t177.length co16)) (fun _ hk => hk.2) (.slice Ao20 t180.length co20)) (fun _ h_ => h_.1))))) (Kd.R_lt (by (with_reducible repeat (first | apply qA | apply qN | apply qD)); exact (Kd.R_mono (qF (p := ⟨gb184, 1, none⟩) (qF (p := ⟨gb184, 0, none⟩) (Kd.R_types HO182.out BK184.out (by decide)) (fun _ hk => hk.2) (.slice Ao16 t177.length co16)) (fun _ hk => hk.2) (.slice Ao20 t180.length co20)) (fun _ h_ => h_.1))))) (below_size (by repeat (first | (with_reducible first | exact HB.out | apply yA | apply yN | apply yD | refine yS ?_ (IsS93.ge HI176.out) | refine yS ?_ GE173.out | refine yS ?_ GE184.out) | exact HB.out)))); have n3_ := qM (blk_below (g := gb173) (o := .cells #[.slice none 0 0, .slice none 0 0] 37 (0, 0)) (by (with_reducible repeat (first | refine zN ?_ _ | refine zD ?_ | refine zA ?_ _)); refine blk_far ?_ NB173_184.out _; (with_reducible repeat (first | refine zN ?_ _ | refine zD ?_ | refine zA ?_ _)); refine blk_far ?_ NB173_184.out _; (with_reducible repeat (first | refine zN ?_ _ | refine zD ?_ | refine zA ?_ _)); exact BK173.out) hb); have n4_ := qM (IsS93.below (show IsS93 w ((w15.setCell ⟨gb184, 0, none⟩ (.slice Ao16 t177.length co16)).setCell ⟨gb184, 1, none⟩ (.slice Ao20 t180.length co20)) g176 t174 t183 from by repeat (first | (with_reducible first | exact HI176.out | apply IsS93.alloc | apply IsS93.drewN | apply IsS93.drew | apply IsS93.set_1 | refine IsS93.far ?_ NB176_173.out _ | refine IsS93.far ?_ NB176_184.out _) | exact HI176.out)) hb); have n5_ := qM (blk_below (g := gb184) (o := .cells #[.slice Ao16 t177.length co16, .slice Ao20 t180.length co20] 37 (0, 0)) (by (with_reducible repeat (first | refine zN ?_ _ | refine zD ?_ | refine zA ?_ _)); refine blk_put (cs := #[.slice Ao16 t177.length co16, .slice none 0 0]) ?_ 1 _ rfl; (with_reducible repeat (first | refine zN ?_ _ | refine zD ?_ | refine zA ?_ _)); refine blk_put (cs := #[.slice none 0 0, .slice none 0 0]) ?_ 0 _ rfl; (with_reducible repeat (first | refine zN ?_ _ | refine zD ?_ | refine zA ?_ _)); exact BK184.out) hb); have n6_ := qM (below_step (by repeat (first | (with_reducible first | exact HB.out | apply yA | apply yN | apply yD | refine yS ?_ (IsS93.ge HI176.out) | refine yS ?_ GE173.out | refine yS ?_ GE184.out) | exact HB.out)) hb); clear HO179; clear HO182; clear BK173; clear HI176; clear BK184; clear HB; have HO179 := n0_; have HO182 := n1_; have HO187 := n2_; have BK173 := n3_; have HI176 := n4_; have BK184 := n5_; have HB := n6_; clear n0_ n1_ n2_ n3_ n4_ n5_ n6_; clear hb ho22) | ((with_reducible refine gate_callee (f := 53) rfl ?_); refine goesL_ (some 17) rfl rfl Try.func53 (by kernel_rfl) rfl #[.pointer (some ⟨g176, 0, none⟩), .int .i64 7] rfl (by (try simp only [List.map_toArray, List.map_cons, List.map_nil]); first | done | rfl | (simp only [List.length_drop, List.length_take]; rfl)) ?_; (with_reducible refine (spec_l30Rd_pick.calls k g176 t174 t183 7 t188 t189 w _ ?side1 ?side2 A4.out).mono ?_); (case side1 => repeat (first | (with_reducible first | exact HI176.out | apply IsS93.alloc | apply IsS93.drewN | apply IsS93.drew | apply IsS93.set_1 | refine IsS93.far ?_ NB176_173.out _ | refine IsS93.far ?_ NB176_184.out _) | exact HI176.out)); (case side2 => repeat (first | (with_reducible first | exact HB.out | apply yA | apply yN | apply yD | refine yS ?_ (IsS93.ge HI176.out) | refine yS ?_ GE173.out | refine yS ?_ GE184.out) | exact HB.out)); rintro e w23 ⟨rfl, hi, hb, hk⟩; refine ⟨_, rfl, ?_⟩; have n0_ := qM (KeepBut.blk hk (g' := gb173) (o := .cells #[.slice none 0 0, .slice none 0 0] 37 (0, 0)) (by (with_reducible repeat (first | refine zN ?_ _ | refine zD ?_ | refine zA ?_ _)); exact BK173.out) NB173_176.out (by simp)); have n1_ := qM (Kd.R_mono (Kd.R_keep (IsS93.apart (show IsS93 w _ g176 t174 t183 from by repeat (first | (with_reducible first | exact HI176.out | apply IsS93.alloc | apply IsS93.drewN | apply IsS93.drew | apply IsS93.set_1 | refine IsS93.far ?_ NB176_173.out _ | refine IsS93.far ?_ NB176_184.out _) | exact HI176.out)) (by (with_reducible repeat (first | apply qA | apply qN | apply qD)); exact HO179.out) (by decide)) hk (fun _ h => h.2)) (fun _ h => h.1)); have n2_ := qM (Kd.R_mono (Kd.R_keep (IsS93.apart (show IsS93 w _ g176 t174 t183 from by repeat (first | (with_reducible first | exact HI176.out | apply IsS93.alloc | apply IsS93.drewN | apply IsS93.drew | apply IsS93.set_1 | refine IsS93.far ?_ NB176_173.out _ | refine IsS93.far ?_ NB176_184.out _) | exact HI176.out)) (by (with_reducible repeat (first | apply qA | apply qN | apply qD)); exact HO182.out) (by decide)) hk (fun _ h => h.2)) (fun _ h => h.1)); have n3_ := qM (KeepBut.blk hk (g' := gb184) (o := .cells #[.slice Ao16 t177.length co16, .slice Ao20 t180.length co20] 37 (0, 0)) (by (with_reducible repeat (first | refine zN ?_ _ | refine zD ?_ | refine zA ?_ _)); exact BK184.out) NB184_176.out (by simp)); have n4_ := qM (Kd.R_mono (Kd.R_keep (IsS93.apart (show IsS93 w _ g176 t174 t183 from by repeat (first | (with_reducible first | exact HI176.out | apply IsS93.alloc | apply IsS93.drewN | apply IsS93.drew | apply IsS93.set_1 | refine IsS93.far ?_ NB176_173.out _ | refine IsS93.far ?_ NB176_184.out _) | exact HI176.out)) (by (with_reducible repeat (first | apply qA | apply qN | apply qD)); exact HO187.out) (by decide)) hk (fun _ h => h.2)) (fun _ h => h.1)); have n5_ := qM (hb); have n6_ := qM (hi); clear BK173; clear HO179; clear HO182; clear BK184; clear HO187; clear HB; clear HI176; have BK173 := n0_; have HO179 := n1_; have HO182 := n2_; have BK184 := n3_; have HO187 := n4_; have HB := n5_; have HI176 := n6_; clear n0_ n1_ n2_ n3_ n4_ n5_ n6_; (try clear hb); (try clear hb2); (try clear hk); (try clear hi); obtain ⟨Ao24, co24, eo24⟩ := Kd.R_slice HO187.out; subst eo24; have p190 : 0 ≤ (t188 : Int) := of_decide_eq_true (by first | (with_reducible assumption) | assumption); have q190 : t188 < (y185.length : Int) := of_decide_eq_true (by first | (with_reducible assumption) | assumption); obtain ⟨ad190, e190, hx190_0⟩ := Kd.at_int (qR HO187.out).2.2 t188 p190 q190; cases e190; replace p190 := eq_true p190; replace q190 := eq_true q190) | ((with_reducible refine gate_callee (f := 53) rfl ?_); refine goesL_ (some 21) rfl rfl Try.func53 (by kernel_rfl) rfl #[.pointer (some ⟨g176, 0, none⟩), .int .i64 4] rfl (by (try simp only [List.map_toArray, List.map_cons, List.map_nil]); first | done | rfl | (simp only [List.length_drop, List.length_take]; rfl)) ?_; (with_reducible refine (spec_l30Rd_pick.calls k g176 t174 t189 4 t191 t192 w _ ?side1 ?side2 A7.out).mono ?_); (case side1 => repeat (first | (with_reducible first | exact HI176.out | apply IsS93.alloc | apply IsS93.drewN | apply IsS93.drew | apply IsS93.set_1 | refine IsS93.far ?_ NB176_173.out _ | refine IsS93.far ?_ NB176_184.out _) | exact HI176.out)); (case side2 => repeat (first | (with_reducible first | exact HB.out | apply yA | apply yN | apply yD | refine yS ?_ (IsS93.ge HI176.out) | refine yS ?_ GE173.out | refine yS ?_ GE184.out) | exact HB.out)); rintro e w25 ⟨rfl, hi, hb, hk⟩; refine ⟨_, rfl, ?_⟩; have n0_ := qM (KeepBut.blk hk (g' := gb173) (o := .cells #[.slice none 0 0, .slice none 0 0] 37 (0, 0)) (by (with_reducible repeat (first | refine zN ?_ _ | refine zD ?_ | refine zA ?_ _)); exact BK173.out) NB173_176.out (by simp)); have n1_ := qM (Kd.R_mono (Kd.R_keep (IsS93.apart (show IsS93 w _ g176 t174 t189 from by repeat (first | (with_reducible first | exact HI176.out | apply IsS93.alloc | apply IsS93.drewN | apply IsS93.drew | apply IsS93.set_1 | refine IsS93.far ?_ NB176_173.out _ | refine IsS93.far ?_ NB176_184.out _) | exact HI176.out)) (by (with_reducible repeat (first | apply qA | apply qN | apply qD)); exact HO179.out) (by decide)) hk (fun _ h => h.2)) (fun _ h => h.1)); have n2_ := qM (Kd.R_mono (Kd.R_keep (IsS93.apart (show IsS93 w _ g176 t174 t189 from by repeat (first | (with_reducible first | exact HI176.out | apply IsS93.alloc | apply IsS93.drewN | apply IsS93.drew | apply IsS93.set_1 | refine IsS93.far ?_ NB176_173.out _ | refine IsS93.far ?_ NB176_184.out _) | exact HI176.out)) (by (with_reducible repeat (first | apply qA | apply qN | apply qD)); exact HO182.out) (by decide)) hk (fun _ h => h.2)) (fun _ h => h.1)); have n3_ := qM (KeepBut.blk hk (g' := gb184) (o := .cells #[.slice Ao16 t177.length co16, .slice Ao20 t180.length co20] 37 (0, 0)) (by (with_reducible repeat (first | refine zN ?_ _ | refine zD ?_ | refine zA ?_ _)); exact BK184.out) NB184_176.out (by simp)); have n4_ := qM (Kd.R_mono (Kd.R_keep (IsS93.apart (show IsS93 w _ g176 t174 t189 from by repeat (first | (with_reducible first | exact HI176.out | apply IsS93.alloc | apply IsS93.drewN | apply IsS93.drew | apply IsS93.set_1 | refine IsS93.far ?_ NB176_173.out _ | refine IsS93.far ?_ NB176_184.out _) | exact HI176.out)) (by (with_reducible repeat (first | apply qA | apply qN | apply qD)); exact HO187.out) (by decide)) hk (fun _ h => h.2)) (fun _ h => h.1)); have n5_ := qM (hb); have n6_ := qM (hi); clear BK173; clear HO179; clear HO182; clear BK184; clear HO187; clear HB; clear HI176; have BK173 := n0_; have HO179 := n1_; have HO182 := n2_; have BK184 := n3_; have HO187 := n4_; have HB := n5_; have HI176 := n6_; clear n0_ n1_ n2_ n3_ n4_ n5_ n6_; (try clear hb); (try clear hb2); (try clear hk); (try clear hi)) | ((with_reducible refine gate_dst (N := 23) rfl ?_); (try (refine gate_guard (by rfl) ?_; dsimp only)); refine Kd.R_lit (Kd.int .i64) _ 3 ?hg (N := 23) ?hd (xs := ([0, 1, 2, 3, 31, 60000, 60001, (-1)] : List Int)) (inner := [.int .i64 0, .int .i64 1, .int .i64 2, .int .i64 3, .int .i64 31, .int .i64 60000, .int .i64 60001, .int .i64 (-1)]) (ok := fun _ => True) (okp := fun _ => True) ?hr ?hp (fun _ hk => hk) trivial (Below.refl _ _) (Nat.le_refl _) (by simp) ?_; (case hd => rfl); (case hg => rfl); (case hr => first | (go_simp; done) | (go_simp; rfl)); (case hp => exact (Reps.one (show Kd.M (Kd.int .i64) _ _ _ 0 [.int .i64 0] from rfl) (Reps.one (show Kd.M (Kd.int .i64) _ _ _ 1 [.int .i64 1] from rfl) (Reps.one (show Kd.M (Kd.int .i64) _ _ _ 2 [.int .i64 2] from rfl) (Reps.one (show Kd.M (Kd.int .i64) _ _ _ 3 [.int .i64 3] from rfl) (Reps.one (show Kd.M (Kd.int .i64) _ _ _ 31 [.int .i64 31] from rfl) (Reps.one (show Kd.M (Kd.int .i64) _ _ _ 60000 [.int .i64 60000] from rfl) (Reps.one (show Kd.M (Kd.int .i64) _ _ _ 60001 [.int .i64 60001] from rfl) (Reps.one (show Kd.M (Kd.int .i64) _ _ _ (-1) [.int .i64 (-1)] from rfl) (Reps.none _ _)))))))))); intro v194 w26 ho27 hb hg_ hnew_; clear hg_ hnew_; (first | rw [← Ny193.out] at ho27 | (simp only [Int.reduceToNat] at ho27; rw [← Ny193.out] at ho27)); have n0_ := qM (Kd.R_elder' (by (with_reducible repeat (first | apply qA | apply qN | apply qD)); exact HO179.out) (Kd.R_base ho27) hb); have n1_ := qM (Kd.R_elder' (by (with_reducible repeat (first | apply qA | apply qN | apply qD)); exact HO182.out) (Kd.R_base ho27) hb); have n2_ := qM (Kd.R_elder' (by (with_reducible repeat (first | apply qA | apply qN | apply qD)); exact HO187.out) (Kd.R_base ho27) hb); have n3_ := qM (Kd.R_lower (Kd.R_new' (Kd.R_new' (Kd.R_new' ho27 (Kd.R_lt (by (with_reducible repeat (first | apply qA | apply qN | apply qD)); exact HO179.out))) (Kd.R_lt (by (with_reducible repeat (first | apply qA | apply qN | apply qD)); exact HO182.out))) (Kd.R_lt (by (with_reducible repeat (first | apply qA | apply qN | apply qD)); exact HO187.out))) (below_size (by repeat (first | (with_reducible first | exact HB.out | apply yA | apply yN | apply yD | refine yS ?_ (IsS93.ge HI176.out) | refine yS ?_ GE173.out | refine yS ?_ GE184.out) | exact HB.out)))); have n4_ := qM (blk_below (g := gb173) (o := .cells #[.slice none 0 0, .slice none 0 0] 37 (0, 0)) (by (with_reducible repeat (first | refine zN ?_ _ | refine zD ?_ | refine zA ?_ _)); exact BK173.out) hb); have n5_ := qM (IsS93.below (by repeat (first | (with_reducible first | exact HI176.out | apply IsS93.alloc | apply IsS93.drewN | apply IsS93.drew | apply IsS93.set_1 | refine IsS93.far ?_ NB176_173.out _ | refine IsS93.far ?_ NB176_184.out _) | exact HI176.out)) hb); have n6_ := qM (blk_below (g := gb184) (o := .cells #[.slice Ao16 t177.length co16, .slice Ao20 t180.length co20] 37 (0, 0)) (by (with_reducible repeat (first | refine zN ?_ _ | refine zD ?_ | refine zA ?_ _)); exact BK184.out) hb); have n7_ := qM (below_step (by repeat (first | (with_reducible first | exact HB.out | apply yA | apply yN | apply yD | refine yS ?_ (IsS93.ge HI176.out) | refine yS ?_ GE173.out | refine yS ?_ GE184.out) | exact HB.out)) hb); clear HO179; clear HO182; clear HO187; clear BK173; clear HI176; clear BK184; clear HB; have HO179 := n0_; have HO182 := n1_; have HO187 := n2_; have HO195 := n3_; have BK173 := n4_; have HI176 := n5_; have BK184 := n6_; have HB := n7_; clear n0_ n1_ n2_ n3_ n4_ n5_ n6_ n7_; clear hb ho27) | ((with_reducible refine gate_callee (f := 53) rfl ?_); refine goesL_ (some 25) rfl rfl Try.func53 (by kernel_rfl) rfl #[.pointer (some ⟨g176, 0, none⟩), .int .i64 8] rfl (by (try simp only [List.map_toArray, List.map_cons, List.map_nil]); first | done | rfl | (simp only [List.length_drop, List.length_take]; rfl)) ?_; (with_reducible refine (spec_l30Rd_pick.calls k g176 t174 t192 8 t196 t197 w _ ?side1 ?side2 A8.out).mono ?_); (case side1 => repeat (first | (with_reducible first | exact HI176.out | apply IsS93.alloc | apply IsS93.drewN | apply IsS93.drew | apply IsS93.set_1 | refine IsS93.far ?_ NB176_173.out _ | refine IsS93.far ?_ NB176_184.out _) | exact HI176.out)); (case side2 => repeat (first | (with_reducible first | exact HB.out | apply yA | apply yN | apply yD | refine yS ?_ (IsS93.ge HI176.out) | refine yS ?_ GE173.out | refine yS ?_ GE184.out) | exact HB.out)); rintro e w28 ⟨rfl, hi, hb, hk⟩; refine ⟨_, rfl, ?_⟩; have n0_ := qM (KeepBut.blk hk (g' := gb173) (o := .cells #[.slice none 0 0, .slice none 0 0] 37 (0, 0)) (by (with_reducible repeat (first | refine zN ?_ _ | refine zD ?_ | refine zA ?_ _)); exact BK173.out) NB173_176.out (by simp)); have n1_ := qM (Kd.R_mono (Kd.R_keep (IsS93.apart (show IsS93 w _ g176 t174 t192 from by repeat (first | (with_reducible first | exact HI176.out | apply IsS93.alloc | apply IsS93.drewN | apply IsS93.drew | apply IsS93.set_1 | refine IsS93.far ?_ NB176_173.out _ | refine IsS93.far ?_ NB176_184.out _) | exact HI176.out)) (by (with_reducible repeat (first | apply qA | apply qN | apply qD)); exact HO179.out) (by decide)) hk (fun _ h => h.2)) (fun _ h => h.1)); have n2_ := qM (Kd.R_mono (Kd.R_keep (IsS93.apart (show IsS93 w _ g176 t174 t192 from by repeat (first | (with_reducible first | exact HI176.out | apply IsS93.alloc | apply IsS93.drewN | apply IsS93.drew | apply IsS93.set_1 | refine IsS93.far ?_ NB176_173.out _ | refine IsS93.far ?_ NB176_184.out _) | exact HI176.out)) (by (with_reducible repeat (first | apply qA | apply qN | apply qD)); exact HO182.out) (by decide)) hk (fun _ h => h.2)) (fun _ h => h.1)); have n3_ := qM (KeepBut.blk hk (g' := gb184) (o := .cells #[.slice Ao16 t177.length co16, .slice Ao20 t180.length co20] 37 (0, 0)) (by (with_reducible repeat (first | refine zN ?_ _ | refine zD ?_ | refine zA ?_ _)); exact BK184.out) NB184_176.out (by simp)); have n4_ := qM (Kd.R_mono (Kd.R_keep (IsS93.apart (show IsS93 w _ g176 t174 t192 from by repeat (first | (with_reducible first | exact HI176.out | apply IsS93.alloc | apply IsS93.drewN | apply IsS93.drew | apply IsS93.set_1 | refine IsS93.far ?_ NB176_173.out _ | refine IsS93.far ?_ NB176_184.out _) | exact HI176.out)) (by (with_reducible repeat (first | apply qA | apply qN | apply qD)); exact HO187.out) (by decide)) hk (fun _ h => h.2)) (fun _ h => h.1)); have n5_ := qM (Kd.R_mono (Kd.R_keep (IsS93.apart (show IsS93 w _ g176 t174 t192 from by repeat (first | (with_reducible first | exact HI176.out | apply IsS93.alloc | apply IsS93.drewN | apply IsS93.drew | apply IsS93.set_1 | refine IsS93.far ?_ NB176_173.out _ | refine IsS93.far ?_ NB176_184.out _) | exact HI176.out)) (by (with_reducible repeat (first | apply qA | apply qN | apply qD)); exact HO195.out) (by decide)) hk (fun _ h => h.2)) (fun _ h => h.1)); have n6_ := qM (hb); have n7_ := qM (hi); clear BK173; clear HO179; clear HO182; clear BK184; clear HO187; clear HO195; clear HB; clear HI176; have BK173 := n0_; have HO179 := n1_; have HO182 := n2_; have BK184 := n3_; have HO187 := n4_; have HO195 := n5_; have HB := n6_; have HI176 := n7_; clear n0_ n1_ n2_ n3_ n4_ n5_ n6_ n7_; (try clear hb); (try clear hb2); (try clear hk); (try clear hi); obtain ⟨Ao29, co29, eo29⟩ := Kd.R_slice HO195.out; subst eo29; have p198 : 0 ≤ (t196 : Int) := of_decide_eq_true (by first | (with_reducible assumption) | assumption); have q198 : t196 < (y193.length : Int) := of_decide_eq_true (by first | (with_reducible assumption) | assumption); obtain ⟨ad198, e198, hx198_0⟩ := Kd.at_int (qR HO195.out).2.2 t196 p198 q198; cases e198; replace p198 := eq_true p198; replace q198 := eq_true q198))
     (try simp only [Act.put, List.setIfInBounds_toArray, List.set_cons_zero, List.set_cons_succ])
     go_cut [48] (fun v48 wc => ∃ (kq : Nat) (x48_10 : Bool) (x177001_10 : Int), v48 = .bool x48_10 ∧ Aside0 (spec_DrawHrdHear.j0 kq (rd y185 t188) (wrap64 (1 + t191)) (rd y193 t196) x48_10 t174 x177001_10 t177 t180 = some (r1, r2, r3, r4, r5)) ∧ Aside0 (kq ≤ k) ∧ Aside0 (Kd.R (Kd.int .i64) 3 wc w.heap.size (fun k_ => some k_ ≠ ((.slice Ao20 t180.length co20) : Value).ownBlock) (.slice Ao16 t177.length co16) t177) ∧ Aside0 (Kd.R (Kd.int .i64) 3 wc w.heap.size (fun k_ => some k_ ≠ ((.slice Ao16 t177.length co16) : Value).ownBlock) (.slice Ao20 t180.length co20) t180) ∧ Aside0 (wc.heap[gb173]? = some (.cells #[(.slice none 0 0), (.slice none 0 0)] 37 (0, 0))) ∧ Aside0 (wc.heap[gb184]? = some (.cells #[(.slice Ao16 t177.length co16), (.slice Ao20 t180.length co20)] 37 (0, 0))) ∧ Aside0 (IsS93 w wc g176 t174 x177001_10) ∧ Aside0 (Below w.heap.size w wc))
     case first =>
      have H := HC11.out
      clear HC11
      by_cases c30 : (rd y185 t188) ≥ 0
      ·rw [if_pos c30] at H
       have c30b0 : decide (0 ≤ (rd y185 t188)) = true := decide_eq_true c30
       clear c30
       (first | rw [c30b0] | (simp only [i64_w, i32_w]; rw [c30b0]) | skip)
       by_cases c31 : (rd y185 t188) < (t177.length : Int)
       ·rw [if_pos c31] at H
        have c31b0 : decide ((rd y185 t188) < (t177.length : Int)) = true := decide_eq_true c31
        clear c31
        by_cases c32 : (rd y185 t188) < (t180.length : Int)
        ·rw [if_pos c32] at H
         have c32b0 : decide ((rd y185 t188) < (t180.length : Int)) = true := decide_eq_true c32
         clear c32
         replace H := Option.bind_eq_some_iff.mp H
         obtain ⟨⟨t199, t200⟩, A330, H⟩ := H
         replace H : (spec_DrawHrdHear.j0 k (rd y185 t188) (wrap64 (1 + t191)) (rd y193 t196) (t199 == 0) t174 t200 t177 t180) = some (r1, r2, r3, r4, r5) := H
         have A33 := qM A330
         clear A330
         have H' := qM H
         clear H
         have hnb34 := NB184_173.out
         have hnc34 := NB173_184.out
         have hnb35 := NB184_176.out
         have hnc35 := NB176_184.out
         have hcz36_0 : w28.cell? ⟨gb184, 0, none⟩ = some (.slice Ao16 t177.length co16) := (zC BK184.out 0).trans rfl
         have hcz36_1 : w28.cell? ⟨gb184, 1, none⟩ = some (.slice Ao20 t180.length co20) := (zC BK184.out 1).trans rfl
         have hfz36_0 := zF BK184.out 0
         have hfz36_1 := zF BK184.out 1
         go_wp2_with (first | (go_at_call 53; (with_reducible refine (spec_l30Rd_pick.calls k g176 t174 t197 2 t199 t200 w _ ?side1 ?side2 A33.out).mono ?_); (case side1 => repeat (first | (with_reducible first | exact HI176.out | apply IsS93.alloc | apply IsS93.drewN | apply IsS93.drew | apply IsS93.set_1 | refine IsS93.far ?_ NB176_173.out _ | refine IsS93.far ?_ NB176_184.out _) | exact HI176.out)); (case side2 => repeat (first | (with_reducible first | exact HB.out | apply yA | apply yN | apply yD | refine yS ?_ (IsS93.ge HI176.out) | refine yS ?_ GE173.out | refine yS ?_ GE184.out) | exact HB.out)); rintro e w37 ⟨rfl, hi, hb, hk⟩; have n0_ := qM (KeepBut.blk hk (g' := gb173) (o := .cells #[.slice none 0 0, .slice none 0 0] 37 (0, 0)) (by (with_reducible repeat (first | refine zN ?_ _ | refine zD ?_ | refine zA ?_ _)); exact BK173.out) NB173_176.out (by simp)); have n1_ := qM (Kd.R_mono (Kd.R_keep (IsS93.apart (show IsS93 w _ g176 t174 t197 from by repeat (first | (with_reducible first | exact HI176.out | apply IsS93.alloc | apply IsS93.drewN | apply IsS93.drew | apply IsS93.set_1 | refine IsS93.far ?_ NB176_173.out _ | refine IsS93.far ?_ NB176_184.out _) | exact HI176.out)) (by (with_reducible repeat (first | apply qA | apply qN | apply qD)); exact HO179.out) (by decide)) hk (fun _ h => h.2)) (fun _ h => h.1)); have n2_ := qM (Kd.R_mono (Kd.R_keep (IsS93.apart (show IsS93 w _ g176 t174 t197 from by repeat (first | (with_reducible first | exact HI176.out | apply IsS93.alloc | apply IsS93.drewN | apply IsS93.drew | apply IsS93.set_1 | refine IsS93.far ?_ NB176_173.out _ | refine IsS93.far ?_ NB176_184.out _) | exact HI176.out)) (by (with_reducible repeat (first | apply qA | apply qN | apply qD)); exact HO182.out) (by decide)) hk (fun _ h => h.2)) (fun _ h => h.1)); have n3_ := qM (KeepBut.blk hk (g' := gb184) (o := .cells #[.slice Ao16 t177.length co16, .slice Ao20 t180.length co20] 37 (0, 0)) (by (with_reducible repeat (first | refine zN ?_ _ | refine zD ?_ | refine zA ?_ _)); exact BK184.out) NB184_176.out (by simp)); have n4_ := qM (Kd.R_mono (Kd.R_keep (IsS93.apart (show IsS93 w _ g176 t174 t197 from by repeat (first | (with_reducible first | exact HI176.out | apply IsS93.alloc | apply IsS93.drewN | apply IsS93.drew | apply IsS93.set_1 | refine IsS93.far ?_ NB176_173.out _ | refine IsS93.far ?_ NB176_184.out _) | exact HI176.out)) (by (with_reducible repeat (first | apply qA | apply qN | apply qD)); exact HO187.out) (by decide)) hk (fun _ h => h.2)) (fun _ h => h.1)); have n5_ := qM (Kd.R_mono (Kd.R_keep (IsS93.apart (show IsS93 w _ g176 t174 t197 from by repeat (first | (with_reducible first | exact HI176.out | apply IsS93.alloc | apply IsS93.drewN | apply IsS93.drew | apply IsS93.set_1 | refine IsS93.far ?_ NB176_173.out _ | refine IsS93.far ?_ NB176_184.out _) | exact HI176.out)) (by (with_reducible repeat (first | apply qA | apply qN | apply qD)); exact HO195.out) (by decide)) hk (fun _ h => h.2)) (fun _ h => h.1)); have n6_ := qM (hb); have n7_ := qM (hi); clear BK173; clear HO179; clear HO182; clear BK184; clear HO187; clear HO195; clear HB; clear HI176; have BK173 := n0_; have HO179 := n1_; have HO182 := n2_; have BK184 := n3_; have HO187 := n4_; have HO195 := n5_; have HB := n6_; have HI176 := n7_; clear n0_ n1_ n2_ n3_ n4_ n5_ n6_ n7_; (try clear hb); (try clear hb2); (try clear hk); (try clear hi)))
         go_meet
         case rel => exact ⟨_, ((t199 == 0)), (t200), (by first | rfl | (simp; done) | (simp [*]; done)), H', ⟨by first | omega | exact Nat.le_refl _⟩, ⟨by (with_reducible repeat (first | apply qA | apply qN | apply qD)); exact Kd.R_mono HO179.out (fun _ hk => hk.1.1)⟩, ⟨by (with_reducible repeat (first | apply qA | apply qN | apply qD)); exact Kd.R_mono HO182.out (fun _ hk => hk.1.1)⟩, ⟨by (with_reducible repeat (first | refine zN ?_ _ | refine zD ?_ | refine zA ?_ _)); exact BK173.out⟩, ⟨by (with_reducible repeat (first | refine zN ?_ _ | refine zD ?_ | refine zA ?_ _)); exact BK184.out⟩, ⟨by repeat (first | (with_reducible first | exact HI176.out | apply IsS93.alloc | apply IsS93.drewN | apply IsS93.drew | apply IsS93.set_1 | refine IsS93.far ?_ NB176_173.out _ | refine IsS93.far ?_ NB176_184.out _) | exact HI176.out)⟩, ⟨by repeat (first | (with_reducible first | exact HB.out | apply yA | apply yN | apply yD | refine yS ?_ (IsS93.ge HI176.out) | refine yS ?_ GE173.out | refine yS ?_ GE184.out) | exact HB.out)⟩⟩
        ·rw [if_neg c32] at H
         have c32b0 : decide ((rd y185 t188) < (t180.length : Int)) = false := decide_eq_false c32
         clear c32
         have H' := qM H
         clear H
         have hnb38 := NB184_173.out
         have hnc38 := NB173_184.out
         have hnb39 := NB184_176.out
         have hnc39 := NB176_184.out
         have hcz40_0 : w28.cell? ⟨gb184, 0, none⟩ = some (.slice Ao16 t177.length co16) := (zC BK184.out 0).trans rfl
         have hcz40_1 : w28.cell? ⟨gb184, 1, none⟩ = some (.slice Ao20 t180.length co20) := (zC BK184.out 1).trans rfl
         have hfz40_0 := zF BK184.out 0
         have hfz40_1 := zF BK184.out 1
         go_wp2
         go_meet
         case rel => exact ⟨_, (false), (t197), (by first | rfl | (simp; done) | (simp [*]; done)), H', ⟨by first | omega | exact Nat.le_refl _⟩, ⟨by (with_reducible repeat (first | apply qA | apply qN | apply qD)); exact Kd.R_mono HO179.out (fun _ hk => hk.1.1)⟩, ⟨by (with_reducible repeat (first | apply qA | apply qN | apply qD)); exact Kd.R_mono HO182.out (fun _ hk => hk.1.1)⟩, ⟨by (with_reducible repeat (first | refine zN ?_ _ | refine zD ?_ | refine zA ?_ _)); exact BK173.out⟩, ⟨by (with_reducible repeat (first | refine zN ?_ _ | refine zD ?_ | refine zA ?_ _)); exact BK184.out⟩, ⟨by repeat (first | (with_reducible first | exact HI176.out | apply IsS93.alloc | apply IsS93.drewN | apply IsS93.drew | apply IsS93.set_1 | refine IsS93.far ?_ NB176_173.out _ | refine IsS93.far ?_ NB176_184.out _) | exact HI176.out)⟩, ⟨by repeat (first | (with_reducible first | exact HB.out | apply yA | apply yN | apply yD | refine yS ?_ (IsS93.ge HI176.out) | refine yS ?_ GE173.out | refine yS ?_ GE184.out) | exact HB.out)⟩⟩
       ·rw [if_neg c31] at H
        have c31b0 : decide ((rd y185 t188) < (t177.length : Int)) = false := decide_eq_false c31
        clear c31
        have H' := qM H
        clear H
        have hnb41 := NB184_173.out
        have hnc41 := NB173_184.out
        have hnb42 := NB184_176.out
        have hnc42 := NB176_184.out
        have hcz43_0 : w28.cell? ⟨gb184, 0, none⟩ = some (.slice Ao16 t177.length co16) := (zC BK184.out 0).trans rfl
        have hcz43_1 : w28.cell? ⟨gb184, 1, none⟩ = some (.slice Ao20 t180.length co20) := (zC BK184.out 1).trans rfl
        have hfz43_0 := zF BK184.out 0
        have hfz43_1 := zF BK184.out 1
        go_wp2
        go_meet
        case rel => exact ⟨_, (false), (t197), (by first | rfl | (simp; done) | (simp [*]; done)), H', ⟨by first | omega | exact Nat.le_refl _⟩, ⟨by (with_reducible repeat (first | apply qA | apply qN | apply qD)); exact Kd.R_mono HO179.out (fun _ hk => hk.1.1)⟩, ⟨by (with_reducible repeat (first | apply qA | apply qN | apply qD)); exact Kd.R_mono HO182.out (fun _ hk => hk.1.1)⟩, ⟨by (with_reducible repeat (first | refine zN ?_ _ | refine zD ?_ | refine zA ?_ _)); exact BK173.out⟩, ⟨by (with_reducible repeat (first | refine zN ?_ _ | refine zD ?_ | refine zA ?_ _)); exact BK184.out⟩, ⟨by repeat (first | (with_reducible first | exact HI176.out | apply IsS93.alloc | apply IsS93.drewN | apply IsS93.drew | apply IsS93.set_1 | refine IsS93.far ?_ NB176_173.out _ | refine IsS93.far ?_ NB176_184.out _) | exact HI176.out)⟩, ⟨by repeat (first | (with_reducible first | exact HB.out | apply yA | apply yN | apply yD | refine yS ?_ (IsS93.ge HI176.out) | refine yS ?_ GE173.out | refine yS ?_ GE184.out) | exact HB.out)⟩⟩
      ·rw [if_neg c30] at H
       have c30b0 : decide (0 ≤ (rd y185 t188)) = false := decide_eq_false c30
       clear c30
       (first | rw [c30b0] | (simp only [i64_w, i32_w]; rw [c30b0]) | skip)
       have H' := qM H
       clear H
       go_wp2
       go_meet
       case rel => exact ⟨_, (false), (t197), (by first | rfl | (simp; done) | (simp [*]; done)), H', ⟨by first | omega | exact Nat.le_refl _⟩, ⟨by (with_reducible repeat (first | apply qA | apply qN | apply qD)); exact Kd.R_mono HO179.out (fun _ hk => hk.1.1)⟩, ⟨by (with_reducible repeat (first | apply qA | apply qN | apply qD)); exact Kd.R_mono HO182.out (fun _ hk => hk.1.1)⟩, ⟨by (with_reducible repeat (first | refine zN ?_ _ | refine zD ?_ | refine zA ?_ _)); exact BK173.out⟩, ⟨by (with_reducible repeat (first | refine zN ?_ _ | refine zD ?_ | refine zA ?_ _)); exact BK184.out⟩, ⟨by repeat (first | (with_reducible first | exact HI176.out | apply IsS93.alloc | apply IsS93.drewN | apply IsS93.drew | apply IsS93.set_1 | refine IsS93.far ?_ NB176_173.out _ | refine IsS93.far ?_ NB176_184.out _) | exact HI176.out)⟩, ⟨by repeat (first | (with_reducible first | exact HB.out | apply yA | apply yN | apply yD | refine yS ?_ (IsS93.ge HI176.out) | refine yS ?_ GE173.out | refine yS ?_ GE184.out) | exact HB.out)⟩⟩
     case rest =>
      clear HC11
      try clear c1
      try clear p1
      try clear q1
      try clear hx1
      try clear c2
      try clear p2
      try clear c3
      try clear c4
      try clear c5
      try clear c5b0
      try clear c6
      try clear c6b0
      try clear p6
      try clear c9
      try clear c9b0
      try clear c10
      try clear c10b0
      try clear c17
      try clear c18
      try clear p19
      try clear q19
      try clear hx19
      try clear c25
      try clear c30
      try clear c30b0
      try clear c31
      try clear c31b0
      try clear c32
      try clear c32b0
      try clear c34
      try clear c35
      try clear c38
      try clear c39
      try clear c41
      try clear c42
      try clear hcz19_0
      try clear hcz19_1
      try clear hcz36_0
      try clear hcz36_1
      try clear hcz40_0
      try clear hcz40_1
      try clear hcz43_0
      try clear hcz43_1
      try clear hfz19_0
      try clear hfz19_1
      try clear hfz36_0
      try clear hfz36_1
      try clear hfz40_0
      try clear hfz40_1
      try clear hfz43_0
      try clear hfz43_1
      try clear hx190_0
      try clear hx198_0
      try clear p190
      try clear p198
      try clear q190
      try clear q198
      obtain ⟨kq, x48_10, x177001_10, rfl, HA, HJ10, HO_185000, HO_185001, BK173, BK184, HI176, HB⟩ := hcut
      cases kq with
      | zero => exact absurd HA.out (by simp [spec_DrawHrdHear.j0])
      | succ kj10 =>
       have H := HA.out
       clear HA
       simp only [spec_DrawHrdHear.j0] at H
       by_cases c44 : x48_10 = true
       ·subst c44
        have H1 : (if 0 ≤ (rd y185 t188) then (if (rd y185 t188) < (t177.length : Int) then ((some (([0, 0, 1] : List Int) : List Int)).bind fun y202 => ((spec_l30Rd_pick.f kj10 t174 x177001_10 3).bind fun bt205 => (if 0 ≤ bt205.1 then (if bt205.1 < (y202.length : Int) then (if (rd y185 t188) < (t180.length : Int) then ((some (([0, 1, 1, (-1)] : List Int) : List Int)).bind fun y209 => ((spec_l30Rd_pick.f kj10 t174 bt205.2 4).bind fun bt212 => (if 0 ≤ bt212.1 then (if bt212.1 < (y209.length : Int) then (some (t177, t180, (rd y185 t188), wrap64 ((rd t177 (rd y185 t188)) + (rd y202 bt205.1)), wrap64 ((rd t180 (rd y185 t188)) + (rd y209 bt212.1)))) else (none)) else (none)))) else (none)) else (none)) else (none)))) else (none)) else (none)) = some (r1, r2, r3, r4, r5) := by rw [if_pos rfl] at H; exact H
        clear H
        have H := H1
        clear H1
        by_cases c45 : 0 ≤ (rd y185 t188)
        ·rw [if_pos c45] at H
         have c45b0 : decide (0 ≤ (rd y185 t188)) = true := decide_eq_true c45
         clear c45
         by_cases c46 : (rd y185 t188) < (t177.length : Int)
         ·rw [if_pos c46] at H
          have c46b0 : decide ((rd y185 t188) < (t177.length : Int)) = true := decide_eq_true c46
          clear c46
          obtain ⟨y202, hy202⟩ : ∃ y_ : List Int, y_ = (([0, 0, 1] : List Int)) := ⟨_, rfl⟩
          replace H : ((spec_l30Rd_pick.f kj10 t174 x177001_10 3).bind fun bt205 => (if 0 ≤ bt205.1 then (if bt205.1 < (y202.length : Int) then (if (rd y185 t188) < (t180.length : Int) then ((some (([0, 1, 1, (-1)] : List Int) : List Int)).bind fun y209 => ((spec_l30Rd_pick.f kj10 t174 bt205.2 4).bind fun bt212 => (if 0 ≤ bt212.1 then (if bt212.1 < (y209.length : Int) then (some (t177, t180, (rd y185 t188), wrap64 ((rd t177 (rd y185 t188)) + (rd y202 bt205.1)), wrap64 ((rd t180 (rd y185 t188)) + (rd y209 bt212.1)))) else (none)) else (none)))) else (none)) else (none)) else (none))) = some (r1, r2, r3, r4, r5) := by first | (rw [hy202]; with_reducible exact H) | (have H2_ := (Option.bind_some _ _).symm.trans H; rw [hy202]; with_reducible exact H2_) | (have H2_ := (Option.bind_some _ _).symm.trans H; with_reducible exact H2_) | with_reducible exact H | (rw [hy202]; exact H) | exact H
          have Ny202 := qM hy202
          clear hy202
          replace H := Option.bind_eq_some_iff.mp H
          obtain ⟨⟨t205, t206⟩, A470, H⟩ := H
          replace H : (if 0 ≤ t205 then (if t205 < (y202.length : Int) then (if (rd y185 t188) < (t180.length : Int) then ((some (([0, 1, 1, (-1)] : List Int) : List Int)).bind fun y209 => ((spec_l30Rd_pick.f kj10 t174 t206 4).bind fun bt212 => (if 0 ≤ bt212.1 then (if bt212.1 < (y209.length : Int) then (some (t177, t180, (rd y185 t188), wrap64 ((rd t177 (rd y185 t188)) + (rd y202 t205)), wrap64 ((rd t180 (rd y185 t188)) + (rd y209 bt212.1)))) else (none)) else (none)))) else (none)) else (none)) else (none)) = some (r1, r2, r3, r4, r5) := H
          have A47 := qM A470
          clear A470
          by_cases c48 : 0 ≤ t205
          ·rw [if_pos c48] at H
           have c48b0 : decide (0 ≤ t205) = true := decide_eq_true c48
           clear c48
           by_cases c49 : t205 < (y202.length : Int)
           ·rw [if_pos c49] at H
            have c49b0 : decide (t205 < (y202.length : Int)) = true := decide_eq_true c49
            clear c49
            by_cases c50 : (rd y185 t188) < (t180.length : Int)
            ·rw [if_pos c50] at H
             have c50b0 : decide ((rd y185 t188) < (t180.length : Int)) = true := decide_eq_true c50
             clear c50
             obtain ⟨y209, hy209⟩ : ∃ y_ : List Int, y_ = (([0, 1, 1, (-1)] : List Int)) := ⟨_, rfl⟩
             replace H : ((spec_l30Rd_pick.f kj10 t174 t206 4).bind fun bt212 => (if 0 ≤ bt212.1 then (if bt212.1 < (y209.length : Int) then (some (t177, t180, (rd y185 t188), wrap64 ((rd t177 (rd y185 t188)) + (rd y202 t205)), wrap64 ((rd t180 (rd y185 t188)) + (rd y209 bt212.1)))) else (none)) else (none))) = some (r1, r2, r3, r4, r5) := by first | (rw [hy209]; with_reducible exact H) | (have H2_ := (Option.bind_some _ _).symm.trans H; rw [hy209]; with_reducible exact H2_) | (have H2_ := (Option.bind_some _ _).symm.trans H; with_reducible exact H2_) | with_reducible exact H | (rw [hy209]; exact H) | exact H
             have Ny209 := qM hy209
             clear hy209
             replace H := Option.bind_eq_some_iff.mp H
             obtain ⟨⟨t212, t213⟩, A510, H⟩ := H
             replace H : (if 0 ≤ t212 then (if t212 < (y209.length : Int) then (some (t177, t180, (rd y185 t188), wrap64 ((rd t177 (rd y185 t188)) + (rd y202 t205)), wrap64 ((rd t180 (rd y185 t188)) + (rd y209 t212)))) else (none)) else (none)) = some (r1, r2, r3, r4, r5) := H
             have A51 := qM A510
             clear A510
             by_cases c52 : 0 ≤ t212
             ·rw [if_pos c52] at H
              have c52b0 : decide (0 ≤ t212) = true := decide_eq_true c52
              clear c52
              by_cases c53 : t212 < (y209.length : Int)
              ·rw [if_pos c53] at H
               have c53b0 : decide (t212 < (y209.length : Int)) = true := decide_eq_true c53
               clear c53
               simp only [Option.some.injEq, Prod.mk.injEq] at H
               obtain ⟨rfl, rfl, rfl, rfl, rfl⟩ := H
               try go_wp2
               have pi207 : (0 ≤ (t205 : Int)) = True := eq_true (of_decide_eq_true (by first | (with_reducible assumption) | assumption))
               have qi207 : (t205 < (y202.length : Int)) = True := eq_true (of_decide_eq_true (by first | (with_reducible assumption) | assumption))
               have n0_ := qM (qD HO_185000.out)
               have n1_ := qM (qD HO_185001.out)
               have n2_ := qM (zD BK173.out)
               have n3_ := qM (zD BK184.out)
               have n4_ := qM (IsS93.drew HI176.out)
               have n5_ := qM (yD HB.out)
               clear HO_185000
               clear HO_185001
               clear BK173
               clear BK184
               clear HI176
               clear HB
               have HO_185000 := n0_
               have HO_185001 := n1_
               have BK173 := n2_
               have BK184 := n3_
               have HI176 := n4_
               have HB := n5_
               clear n0_ n1_ n2_ n3_ n4_ n5_
               have p201 : 0 ≤ ((rd y185 t188) : Int) := of_decide_eq_true (by first | (with_reducible assumption) | assumption)
               have q201 : (rd y185 t188) < (t177.length : Int) := of_decide_eq_true (by first | (with_reducible assumption) | assumption)
               obtain ⟨ad201, e201, hx201_0⟩ := Kd.at_int (qR HO_185000.out).2.2 (rd y185 t188) p201 q201
               cases e201
               replace p201 := eq_true p201
               replace q201 := eq_true q201
               refine start_ (n := 12) (S := fun w' => w'.cell? ⟨gb184, 0, none⟩ = some (.slice (some ad201) t177.length co16) ∧ w'.cell? ⟨gb184, 1, none⟩ = some (.slice Ao20 t180.length co20) ∧ w'.cell? (ad201.add ((rd y185 t188)).toNat) = some (.int .i64 (rd t177 (rd y185 t188)))) (ds := []) #[false, false, false, false, false, false, false, false, false, false, false, false] (by kernel_rfl) rfl rfl ⟨(zC BK184.out 0).trans rfl, (zC BK184.out 1).trans rfl, hx201_0⟩ (fun hHeld => ?_); refine with_tabW spec_DrawHrdHear.tab7 spec_DrawHrdHear.bits7 (fun HT_ HW_ => ?_)
               generalize wc.drew = w54 at HO_185000 HO_185001 BK173 BK184 HI176 HB hx201_0 hHeld ⊢
               refine pure_ (i := 0) (N := some 49) (v := ?_) (a' := ?_) #[true, false, false, false, false, false, false, false, false, false, false, false] rfl rfl (any_of HT_.out (by kernel_rfl)) (fun _ _ _ h => h) (Or.inl ⟨by rfl, ?_⟩) ?_ ?_
               rotate_left
               ·intro w'
                go_simp
                with_reducible rfl
               rotate_left
               ·simp only [Act.put, List.setIfInBounds_toArray, List.set_cons_zero, List.set_cons_succ, i64_w, i32_w]
                rfl
               refine pure_ (i := 2) (N := some 51) (v := ?_) (a' := ?_) #[true, false, true, false, false, false, false, false, false, false, false, false] rfl rfl (any_of HT_.out (by kernel_rfl)) (fun _ _ _ h => h) (Or.inl ⟨by rfl, ?_⟩) ?_ ?_
               rotate_left
               ·intro w'
                go_simp
                with_reducible rfl
               rotate_left
               ·simp only [Act.put, List.setIfInBounds_toArray, List.set_cons_zero, List.set_cons_succ, i64_w, i32_w]
                rfl
               refine pure_ (i := 6) (N := some 55) (v := ?_) (a' := ?_) #[true, false, true, false, false, false, true, false, false, false, false, false] rfl rfl (any_of HT_.out (by kernel_rfl)) (fun _ _ _ h => h) (Or.inl ⟨by rfl, ?_⟩) ?_ ?_
               rotate_left
               ·intro w'
                go_simp
                with_reducible rfl
               rotate_left
               ·simp only [Act.put, List.setIfInBounds_toArray, List.set_cons_zero, List.set_cons_succ, i64_w, i32_w]
                rfl
               refine take_ (i := 1) (N := some 50) (v := ?_) (a' := ?_) #[true, true, true, false, false, false, true, false, false, false, false, false] rfl rfl (take_ofW HT_.out HW_.out (by kernel_rfl)) (fun _ _ _ h => h) (Or.inl ⟨by rfl, ?_⟩) hHeld ?_ ?_
               rotate_left
               ·rintro w' ⟨s0, s1, s2⟩
                go_simp
                with_reducible rfl
               rotate_left
               ·simp only [Act.put, List.setIfInBounds_toArray, List.set_cons_zero, List.set_cons_succ, i64_w, i32_w]
                rfl
               refine pure_ (i := 3) (N := some 52) (v := ?_) (a' := ?_) #[true, true, true, true, false, false, true, false, false, false, false, false] rfl rfl (any_of HT_.out (by kernel_rfl)) (fun _ _ _ h => h) (Or.inl ⟨by rfl, ?_⟩) ?_ ?_
               rotate_left
               ·intro w'
                go_simp
                with_reducible rfl
               rotate_left
               ·simp only [Act.put, List.setIfInBounds_toArray, List.set_cons_zero, List.set_cons_succ, i64_w, i32_w]
                rfl
               refine take_ (i := 4) (N := some 53) (v := ?_) (a' := ?_) #[true, true, true, true, true, false, true, false, false, false, false, false] rfl rfl (take_ofW HT_.out HW_.out (by kernel_rfl)) (fun _ _ _ h => h) (Or.inl ⟨by rfl, ?_⟩) hHeld ?_ ?_
               rotate_left
               ·rintro w' ⟨s0, s1, s2⟩
                go_simp
                with_reducible rfl
               rotate_left
               ·simp only [Act.put, List.setIfInBounds_toArray, List.set_cons_zero, List.set_cons_succ, i64_w, i32_w]
                rfl
               refine join_ (σ := Value × Addr) 4 #[true, true, true, true, true, true, true, true, false, false, false, false] (fun s_ => [(54, s_.1), (56, .int .i64 t205)]) (fun s_ w' => (w'.cell? ⟨gb184, 0, none⟩ = some (.slice (some ad201) t177.length co16) ∧ w'.cell? ⟨gb184, 1, none⟩ = some (.slice Ao20 t180.length co20) ∧ w'.cell? (ad201.add ((rd y185 t188)).toNat) = some (.int .i64 (rd t177 (rd y185 t188)))) ∧ (Kd.R (Kd.int .i64) 3 w' w.heap.size (fun k_ => some k_ ≠ (.slice (some ad201) t177.length co16 : Value).ownBlock ∧ some k_ ≠ (.slice Ao20 t180.length co20 : Value).ownBlock) s_.1 y202) ∧ (Kd.R (Kd.int .i64) 3 w' w.heap.size (fun k_ => some k_ ≠ (s_.1 : Value).ownBlock ∧ some k_ ≠ (.slice Ao20 t180.length co20 : Value).ownBlock) (.slice (some ad201) t177.length co16) t177) ∧ (Kd.R (Kd.int .i64) 3 w' w.heap.size (fun k_ => some k_ ≠ (s_.1 : Value).ownBlock ∧ some k_ ≠ (.slice (some ad201) t177.length co16 : Value).ownBlock) (.slice Ao20 t180.length co20) t180) ∧ (∃ c_, (s_.1 : Value) = .slice (some s_.2) y202.length c_) ∧ (w'.heap[gb173]? = some (.cells #[.slice none 0 0, .slice none 0 0] 37 (0, 0))) ∧ (w'.heap[gb184]? = some (.cells #[.slice (some ad201) t177.length co16, .slice Ao20 t180.length co20] 37 (0, 0))) ∧ (IsS93 w w' g176 t174 t206) ∧ (Below w.heap.size w w')) ?_ ?_
               rotate_left
               ·intro hCont
                refine two_ (i := 5) (j := 7) (Ni := some 54) (Nj := some 56) #[true, true, true, true, true, true, true, false, false, false, false, false] #[true, true, true, true, true, false, true, true, false, false, false, false] rfl rfl rfl rfl (two_of HT_.out (by kernel_rfl)) (by decide) (by decide) (fun K hK => ?_) (fun K hK => ?_)
                ·skip
                 refine Kd.R_lit_step (Kd.int .i64) _ 3 ?hg (N := 54) ?hd (xs := ([0, 0, 1] : List Int)) (inner := [.int .i64 0, .int .i64 0, .int .i64 1]) (ok := fun _ => True) (okp := fun _ => True) ?hr ?hp (fun _ hk => hk) trivial (Below.refl _ _) (Nat.le_refl _) (by simp) ?_; (case hd => rfl); (case hg => rfl); (case hr => first | (go_simp; done) | (go_simp; rfl)); (case hp => exact (Reps.one (show Kd.M (Kd.int .i64) _ _ _ 0 [.int .i64 0] from rfl) (Reps.one (show Kd.M (Kd.int .i64) _ _ _ 0 [.int .i64 0] from rfl) (Reps.one (show Kd.M (Kd.int .i64) _ _ _ 1 [.int .i64 1] from rfl) (Reps.none _ _)))))
                 intro v203 w55 ho56 hb hg_ hnew_
                 have HS2_ := (hb.cell (World.block_lt_of_cell? _ _ (hHeld.2.2))).trans (hHeld.2.2)
                 clear hg_ hnew_
                 (first | rw [← Ny202.out] at ho56 | (simp only [Int.reduceToNat] at ho56; rw [← Ny202.out] at ho56))
                 have n0_ := qM (Kd.R_elder' (by (with_reducible repeat (first | apply qA | apply qN | apply qD)); exact HO_185000.out) (Kd.R_base ho56) hb)
                 have n1_ := qM (Kd.R_elder' (by (with_reducible repeat (first | apply qA | apply qN | apply qD)); exact HO_185001.out) (Kd.R_base ho56) hb)
                 have n2_ := qM (Kd.R_lower (Kd.R_new' (Kd.R_new' ho56 (Kd.R_lt (by (with_reducible repeat (first | apply qA | apply qN | apply qD)); exact HO_185000.out))) (Kd.R_lt (by (with_reducible repeat (first | apply qA | apply qN | apply qD)); exact HO_185001.out))) (below_size (by repeat (first | (with_reducible first | exact HB.out | apply yA | apply yN | apply yD | refine yS ?_ (IsS93.ge HI176.out) | refine yS ?_ GE173.out | refine yS ?_ GE184.out) | exact HB.out))))
                 have n3_ := qM (blk_below (g := gb173) (o := .cells #[.slice none 0 0, .slice none 0 0] 37 (0, 0)) (by (with_reducible repeat (first | refine zN ?_ _ | refine zD ?_ | refine zA ?_ _)); exact BK173.out) hb)
                 have n4_ := qM (blk_below (g := gb184) (o := .cells #[.slice (some ad201) t177.length co16, .slice Ao20 t180.length co20] 37 (0, 0)) (by (with_reducible repeat (first | refine zN ?_ _ | refine zD ?_ | refine zA ?_ _)); exact BK184.out) hb)
                 have n5_ := qM (IsS93.below (by repeat (first | (with_reducible first | exact HI176.out | apply IsS93.alloc | apply IsS93.drewN | apply IsS93.drew | apply IsS93.set_1 | refine IsS93.far ?_ NB176_173.out _ | refine IsS93.far ?_ NB176_184.out _) | exact HI176.out)) hb)
                 have n6_ := qM (below_step (by repeat (first | (with_reducible first | exact HB.out | apply yA | apply yN | apply yD | refine yS ?_ (IsS93.ge HI176.out) | refine yS ?_ GE173.out | refine yS ?_ GE184.out) | exact HB.out)) hb)
                 clear HO_185000
                 clear HO_185001
                 clear BK173
                 clear BK184
                 clear HI176
                 clear HB
                 have HO_185000 := n0_
                 have HO_185001 := n1_
                 have HO204 := n2_
                 have BK173 := n3_
                 have BK184 := n4_
                 have HI176 := n5_
                 have HB := n6_
                 clear n0_ n1_ n2_ n3_ n4_ n5_ n6_
                 clear hb ho56
                 obtain ⟨Ao57, co57, eo57⟩ := Kd.R_slice HO204.out
                 subst eo57
                 obtain ⟨ado57, fo57, _⟩ := Kd.at_int (qR HO204.out).2.2 0 (by decide) (by rw [Ny202.out]; simp)
                 cases fo57
                 refine hK.out _ _ ⟨(zC BK184.out 0).trans rfl, (zC BK184.out 1).trans rfl, HS2_⟩ (fun hHeld => ?_)
                 clear hK K
                 refine norm_ (a' := ?_) ?_ ?_
                 rotate_left
                 ·show Act.put _ (some 54) _ = _
                  simp only [Act.put, List.setIfInBounds_toArray, List.set_cons_zero, List.set_cons_succ, i64_w, i32_w]
                  rfl
                 refine one_ (i := 7) (N := some 56) #[true, true, true, true, true, true, true, true, false, false, false, false] rfl rfl (one_of HT_.out (by kernel_rfl)) (by decide) (fun K hK => ?_)
                 refine goes_ Try.func53 (by kernel_rfl) rfl #[.pointer (some ⟨g176, 0, none⟩), .int .i64 3] (by rfl) rfl rfl (by (try simp only [List.map_toArray, List.map_cons, List.map_nil]); first | done | rfl | (simp only [List.length_drop, List.length_take]; rfl)) ?_
                 with_reducible refine (spec_l30Rd_pick.calls kj10 g176 t174 x177001_10 3 t205 t206 w _ ?side1 ?side2 A47.out).mono ?_
                 (case side1 => repeat (first | (with_reducible first | exact HI176.out | apply IsS93.alloc | apply IsS93.drewN | apply IsS93.drew | apply IsS93.set_1 | refine IsS93.far ?_ NB176_173.out _ | refine IsS93.far ?_ NB176_184.out _) | exact HI176.out))
                 (case side2 => repeat (first | (with_reducible first | exact HB.out | apply yA | apply yN | apply yD | refine yS ?_ (IsS93.ge HI176.out) | refine yS ?_ GE173.out | refine yS ?_ GE184.out) | exact HB.out))
                 rintro e w58 ⟨rfl, hi, hb, hk⟩
                 have HS2_ := keep_cell hk (hHeld.2.2) (by first | (rw [add_block]; exact Kd.own_blk (IsS93.own_ne HI176.out HO_185000.out (by decide))) | (show (Addr.add _ _).block ≠ _; rw [add_block]; exact Kd.own_blk (IsS93.own_ne HI176.out HO_185000.out (by decide))) | exact Kd.own_blk (IsS93.own_ne HI176.out HO_185000.out (by decide)))
                 refine ⟨_, rfl, ?_⟩
                 have n0_ := qM (Kd.R_mono (Kd.R_keep (IsS93.apart (show IsS93 w _ g176 t174 x177001_10 from by repeat (first | (with_reducible first | exact HI176.out | apply IsS93.alloc | apply IsS93.drewN | apply IsS93.drew | apply IsS93.set_1 | refine IsS93.far ?_ NB176_173.out _ | refine IsS93.far ?_ NB176_184.out _) | exact HI176.out)) (by (with_reducible repeat (first | apply qA | apply qN | apply qD)); exact HO_185000.out) (by decide)) hk (fun _ h => h.2)) (fun _ h => h.1))
                 have n1_ := qM (Kd.R_mono (Kd.R_keep (IsS93.apart (show IsS93 w _ g176 t174 x177001_10 from by repeat (first | (with_reducible first | exact HI176.out | apply IsS93.alloc | apply IsS93.drewN | apply IsS93.drew | apply IsS93.set_1 | refine IsS93.far ?_ NB176_173.out _ | refine IsS93.far ?_ NB176_184.out _) | exact HI176.out)) (by (with_reducible repeat (first | apply qA | apply qN | apply qD)); exact HO_185001.out) (by decide)) hk (fun _ h => h.2)) (fun _ h => h.1))
                 have n2_ := qM (KeepBut.blk hk (g' := gb173) (o := .cells #[.slice none 0 0, .slice none 0 0] 37 (0, 0)) (by (with_reducible repeat (first | refine zN ?_ _ | refine zD ?_ | refine zA ?_ _)); exact BK173.out) NB173_176.out (by simp))
                 have n3_ := qM (KeepBut.blk hk (g' := gb184) (o := .cells #[.slice (some ad201) t177.length co16, .slice Ao20 t180.length co20] 37 (0, 0)) (by (with_reducible repeat (first | refine zN ?_ _ | refine zD ?_ | refine zA ?_ _)); exact BK184.out) NB184_176.out (by simp))
                 have n4_ := qM (Kd.R_mono (Kd.R_keep (IsS93.apart (show IsS93 w _ g176 t174 x177001_10 from by repeat (first | (with_reducible first | exact HI176.out | apply IsS93.alloc | apply IsS93.drewN | apply IsS93.drew | apply IsS93.set_1 | refine IsS93.far ?_ NB176_173.out _ | refine IsS93.far ?_ NB176_184.out _) | exact HI176.out)) (by (with_reducible repeat (first | apply qA | apply qN | apply qD)); exact HO204.out) (by decide)) hk (fun _ h => h.2)) (fun _ h => h.1))
                 have n5_ := qM (hb)
                 have n6_ := qM (hi)
                 clear HO_185000
                 clear HO_185001
                 clear BK173
                 clear BK184
                 clear HO204
                 clear HB
                 clear HI176
                 have HO_185000 := n0_
                 have HO_185001 := n1_
                 have BK173 := n2_
                 have BK184 := n3_
                 have HO204 := n4_
                 have HB := n5_
                 have HI176 := n6_
                 clear n0_ n1_ n2_ n3_ n4_ n5_ n6_
                 (try clear hb)
                 (try clear hb2)
                 (try clear hk)
                 (try clear hi)
                 refine hK.out _ _ ⟨(zC BK184.out 0).trans rfl, (zC BK184.out 1).trans rfl, HS2_⟩ (fun hHeld => ?_)
                 clear hK K
                 refine norm_ (a' := ?_) ?_ ?_
                 rotate_left
                 ·show Act.put _ (some 56) _ = _
                  simp only [Act.put, List.setIfInBounds_toArray, List.set_cons_zero, List.set_cons_succ, i64_w, i32_w]
                  rfl
                 exact norm_ (by simp only [putAll, Act.put, List.setIfInBounds_toArray, List.set_cons_zero, List.set_cons_succ]) (hCont (.slice (some ado57) y202.length co57, ado57) _ ⟨hHeld, (by (with_reducible repeat (first | apply qA | apply qN | apply qD)); exact Kd.R_mono HO204.out (fun _ hk => ⟨hk.1.2, hk.2⟩)), (by (with_reducible repeat (first | apply qA | apply qN | apply qD)); exact Kd.R_mono HO_185000.out (fun _ hk => ⟨hk.2, hk.1⟩)), (by (with_reducible repeat (first | apply qA | apply qN | apply qD)); exact Kd.R_mono HO_185001.out (fun _ hk => ⟨hk.2, hk.1⟩)), ⟨_, rfl⟩, (by (with_reducible repeat (first | refine zN ?_ _ | refine zD ?_ | refine zA ?_ _)); exact BK173.out), (by (with_reducible repeat (first | refine zN ?_ _ | refine zD ?_ | refine zA ?_ _)); exact BK184.out), (by repeat (first | (with_reducible first | exact HI176.out | apply IsS93.alloc | apply IsS93.drewN | apply IsS93.drew | apply IsS93.set_1 | refine IsS93.far ?_ NB176_173.out _ | refine IsS93.far ?_ NB176_184.out _) | exact HI176.out)), (by repeat (first | (with_reducible first | exact HB.out | apply yA | apply yN | apply yD | refine yS ?_ (IsS93.ge HI176.out) | refine yS ?_ GE173.out | refine yS ?_ GE184.out) | exact HB.out))⟩)
                ·skip
                 refine goes_ Try.func53 (by kernel_rfl) rfl #[.pointer (some ⟨g176, 0, none⟩), .int .i64 3] (by rfl) rfl rfl (by (try simp only [List.map_toArray, List.map_cons, List.map_nil]); first | done | rfl | (simp only [List.length_drop, List.length_take]; rfl)) ?_
                 with_reducible refine (spec_l30Rd_pick.calls kj10 g176 t174 x177001_10 3 t205 t206 w _ ?side1 ?side2 A47.out).mono ?_
                 (case side1 => repeat (first | (with_reducible first | exact HI176.out | apply IsS93.alloc | apply IsS93.drewN | apply IsS93.drew | apply IsS93.set_1 | refine IsS93.far ?_ NB176_173.out _ | refine IsS93.far ?_ NB176_184.out _) | exact HI176.out))
                 (case side2 => repeat (first | (with_reducible first | exact HB.out | apply yA | apply yN | apply yD | refine yS ?_ (IsS93.ge HI176.out) | refine yS ?_ GE173.out | refine yS ?_ GE184.out) | exact HB.out))
                 rintro e w55 ⟨rfl, hi, hb, hk⟩
                 have HS2_ := keep_cell hk (hHeld.2.2) (by first | (rw [add_block]; exact Kd.own_blk (IsS93.own_ne HI176.out HO_185000.out (by decide))) | (show (Addr.add _ _).block ≠ _; rw [add_block]; exact Kd.own_blk (IsS93.own_ne HI176.out HO_185000.out (by decide))) | exact Kd.own_blk (IsS93.own_ne HI176.out HO_185000.out (by decide)))
                 refine ⟨_, rfl, ?_⟩
                 have n0_ := qM (Kd.R_mono (Kd.R_keep (IsS93.apart (show IsS93 w _ g176 t174 x177001_10 from by repeat (first | (with_reducible first | exact HI176.out | apply IsS93.alloc | apply IsS93.drewN | apply IsS93.drew | apply IsS93.set_1 | refine IsS93.far ?_ NB176_173.out _ | refine IsS93.far ?_ NB176_184.out _) | exact HI176.out)) (by (with_reducible repeat (first | apply qA | apply qN | apply qD)); exact HO_185000.out) (by decide)) hk (fun _ h => h.2)) (fun _ h => h.1))
                 have n1_ := qM (Kd.R_mono (Kd.R_keep (IsS93.apart (show IsS93 w _ g176 t174 x177001_10 from by repeat (first | (with_reducible first | exact HI176.out | apply IsS93.alloc | apply IsS93.drewN | apply IsS93.drew | apply IsS93.set_1 | refine IsS93.far ?_ NB176_173.out _ | refine IsS93.far ?_ NB176_184.out _) | exact HI176.out)) (by (with_reducible repeat (first | apply qA | apply qN | apply qD)); exact HO_185001.out) (by decide)) hk (fun _ h => h.2)) (fun _ h => h.1))
                 have n2_ := qM (KeepBut.blk hk (g' := gb173) (o := .cells #[.slice none 0 0, .slice none 0 0] 37 (0, 0)) (by (with_reducible repeat (first | refine zN ?_ _ | refine zD ?_ | refine zA ?_ _)); exact BK173.out) NB173_176.out (by simp))
                 have n3_ := qM (KeepBut.blk hk (g' := gb184) (o := .cells #[.slice (some ad201) t177.length co16, .slice Ao20 t180.length co20] 37 (0, 0)) (by (with_reducible repeat (first | refine zN ?_ _ | refine zD ?_ | refine zA ?_ _)); exact BK184.out) NB184_176.out (by simp))
                 have n4_ := qM (hb)
                 have n5_ := qM (hi)
                 clear HO_185000
                 clear HO_185001
                 clear BK173
                 clear BK184
                 clear HB
                 clear HI176
                 have HO_185000 := n0_
                 have HO_185001 := n1_
                 have BK173 := n2_
                 have BK184 := n3_
                 have HB := n4_
                 have HI176 := n5_
                 clear n0_ n1_ n2_ n3_ n4_ n5_
                 (try clear hb)
                 (try clear hb2)
                 (try clear hk)
                 (try clear hi)
                 refine hK.out _ _ ⟨(zC BK184.out 0).trans rfl, (zC BK184.out 1).trans rfl, HS2_⟩ (fun hHeld => ?_)
                 clear hK K
                 refine norm_ (a' := ?_) ?_ ?_
                 rotate_left
                 ·show Act.put _ (some 56) _ = _
                  simp only [Act.put, List.setIfInBounds_toArray, List.set_cons_zero, List.set_cons_succ, i64_w, i32_w]
                  rfl
                 refine one_ (i := 5) (N := some 54) #[true, true, true, true, true, true, true, true, false, false, false, false] rfl rfl (one_of HT_.out (by kernel_rfl)) (by decide) (fun K hK => ?_)
                 refine Kd.R_lit_step (Kd.int .i64) _ 3 ?hg (N := 54) ?hd (xs := ([0, 0, 1] : List Int)) (inner := [.int .i64 0, .int .i64 0, .int .i64 1]) (ok := fun _ => True) (okp := fun _ => True) ?hr ?hp (fun _ hk => hk) trivial (Below.refl _ _) (Nat.le_refl _) (by simp) ?_; (case hd => rfl); (case hg => rfl); (case hr => first | (go_simp; done) | (go_simp; rfl)); (case hp => exact (Reps.one (show Kd.M (Kd.int .i64) _ _ _ 0 [.int .i64 0] from rfl) (Reps.one (show Kd.M (Kd.int .i64) _ _ _ 0 [.int .i64 0] from rfl) (Reps.one (show Kd.M (Kd.int .i64) _ _ _ 1 [.int .i64 1] from rfl) (Reps.none _ _)))))
                 intro v203 w56 ho57 hb hg_ hnew_
                 have HS2_ := (hb.cell (World.block_lt_of_cell? _ _ (hHeld.2.2))).trans (hHeld.2.2)
                 clear hg_ hnew_
                 (first | rw [← Ny202.out] at ho57 | (simp only [Int.reduceToNat] at ho57; rw [← Ny202.out] at ho57))
                 have n0_ := qM (Kd.R_elder' (by (with_reducible repeat (first | apply qA | apply qN | apply qD)); exact HO_185000.out) (Kd.R_base ho57) hb)
                 have n1_ := qM (Kd.R_elder' (by (with_reducible repeat (first | apply qA | apply qN | apply qD)); exact HO_185001.out) (Kd.R_base ho57) hb)
                 have n2_ := qM (Kd.R_lower (Kd.R_new' (Kd.R_new' ho57 (Kd.R_lt (by (with_reducible repeat (first | apply qA | apply qN | apply qD)); exact HO_185000.out))) (Kd.R_lt (by (with_reducible repeat (first | apply qA | apply qN | apply qD)); exact HO_185001.out))) (below_size (by repeat (first | (with_reducible first | exact HB.out | apply yA | apply yN | apply yD | refine yS ?_ (IsS93.ge HI176.out) | refine yS ?_ GE173.out | refine yS ?_ GE184.out) | exact HB.out))))
                 have n3_ := qM (blk_below (g := gb173) (o := .cells #[.slice none 0 0, .slice none 0 0] 37 (0, 0)) (by (with_reducible repeat (first | refine zN ?_ _ | refine zD ?_ | refine zA ?_ _)); exact BK173.out) hb)
                 have n4_ := qM (blk_below (g := gb184) (o := .cells #[.slice (some ad201) t177.length co16, .slice Ao20 t180.length co20] 37 (0, 0)) (by (with_reducible repeat (first | refine zN ?_ _ | refine zD ?_ | refine zA ?_ _)); exact BK184.out) hb)
                 have n5_ := qM (IsS93.below (by repeat (first | (with_reducible first | exact HI176.out | apply IsS93.alloc | apply IsS93.drewN | apply IsS93.drew | apply IsS93.set_1 | refine IsS93.far ?_ NB176_173.out _ | refine IsS93.far ?_ NB176_184.out _) | exact HI176.out)) hb)
                 have n6_ := qM (below_step (by repeat (first | (with_reducible first | exact HB.out | apply yA | apply yN | apply yD | refine yS ?_ (IsS93.ge HI176.out) | refine yS ?_ GE173.out | refine yS ?_ GE184.out) | exact HB.out)) hb)
                 clear HO_185000
                 clear HO_185001
                 clear BK173
                 clear BK184
                 clear HI176
                 clear HB
                 have HO_185000 := n0_
                 have HO_185001 := n1_
                 have HO204 := n2_
                 have BK173 := n3_
                 have BK184 := n4_
                 have HI176 := n5_
                 have HB := n6_
                 clear n0_ n1_ n2_ n3_ n4_ n5_ n6_
                 clear hb ho57
                 obtain ⟨Ao58, co58, eo58⟩ := Kd.R_slice HO204.out
                 subst eo58
                 obtain ⟨ado58, fo58, _⟩ := Kd.at_int (qR HO204.out).2.2 0 (by decide) (by rw [Ny202.out]; simp)
                 cases fo58
                 refine hK.out _ _ ⟨(zC BK184.out 0).trans rfl, (zC BK184.out 1).trans rfl, HS2_⟩ (fun hHeld => ?_)
                 clear hK K
                 refine norm_ (a' := ?_) ?_ ?_
                 rotate_left
                 ·show Act.put _ (some 54) _ = _
                  simp only [Act.put, List.setIfInBounds_toArray, List.set_cons_zero, List.set_cons_succ, i64_w, i32_w]
                  rfl
                 exact norm_ (by simp only [putAll, Act.put, List.setIfInBounds_toArray, List.set_cons_zero, List.set_cons_succ]) (hCont (.slice (some ado58) y202.length co58, ado58) _ ⟨hHeld, (by (with_reducible repeat (first | apply qA | apply qN | apply qD)); exact Kd.R_mono HO204.out (fun _ hk => ⟨hk.1.2, hk.2⟩)), (by (with_reducible repeat (first | apply qA | apply qN | apply qD)); exact Kd.R_mono HO_185000.out (fun _ hk => ⟨hk.2, hk.1⟩)), (by (with_reducible repeat (first | apply qA | apply qN | apply qD)); exact Kd.R_mono HO_185001.out (fun _ hk => ⟨hk.2, hk.1⟩)), ⟨_, rfl⟩, (by (with_reducible repeat (first | refine zN ?_ _ | refine zD ?_ | refine zA ?_ _)); exact BK173.out), (by (with_reducible repeat (first | refine zN ?_ _ | refine zD ?_ | refine zA ?_ _)); exact BK184.out), (by repeat (first | (with_reducible first | exact HI176.out | apply IsS93.alloc | apply IsS93.drewN | apply IsS93.drew | apply IsS93.set_1 | refine IsS93.far ?_ NB176_173.out _ | refine IsS93.far ?_ NB176_184.out _) | exact HI176.out)), (by repeat (first | (with_reducible first | exact HB.out | apply yA | apply yN | apply yD | refine yS ?_ (IsS93.ge HI176.out) | refine yS ?_ GE173.out | refine yS ?_ GE184.out) | exact HB.out))⟩)
               rintro ⟨v203, adz_v203⟩ w59 ⟨hS_, h0_, h1_, h2_, h3_, h4_, h5_, h6_, h7_⟩
               have n0_ : Aside0 (Kd.R (Kd.int .i64) 3 w59 w.heap.size (fun k_ => some k_ ≠ (.slice (some ad201) t177.length co16 : Value).ownBlock ∧ some k_ ≠ (.slice Ao20 t180.length co20 : Value).ownBlock) v203 y202) := ⟨h0_⟩
               have n1_ : Aside0 (Kd.R (Kd.int .i64) 3 w59 w.heap.size (fun k_ => some k_ ≠ (v203 : Value).ownBlock ∧ some k_ ≠ (.slice Ao20 t180.length co20 : Value).ownBlock) (.slice (some ad201) t177.length co16) t177) := ⟨h1_⟩
               have n2_ : Aside0 (Kd.R (Kd.int .i64) 3 w59 w.heap.size (fun k_ => some k_ ≠ (v203 : Value).ownBlock ∧ some k_ ≠ (.slice (some ad201) t177.length co16 : Value).ownBlock) (.slice Ao20 t180.length co20) t180) := ⟨h2_⟩
               have n3_ : Aside0 (∃ c_, (v203 : Value) = .slice (some adz_v203) y202.length c_) := ⟨h3_⟩
               have n4_ : Aside0 (w59.heap[gb173]? = some (.cells #[.slice none 0 0, .slice none 0 0] 37 (0, 0))) := ⟨h4_⟩
               have n5_ : Aside0 (w59.heap[gb184]? = some (.cells #[.slice (some ad201) t177.length co16, .slice Ao20 t180.length co20] 37 (0, 0))) := ⟨h5_⟩
               have n6_ : Aside0 (IsS93 w w59 g176 t174 t206) := ⟨h6_⟩
               have n7_ : Aside0 (Below w.heap.size w w59) := ⟨h7_⟩
               clear HO_185000
               clear HO_185001
               clear BK173
               clear BK184
               clear HI176
               clear HB
               clear h0_ h1_ h2_ h3_ h4_ h5_ h6_ h7_
               have HO204 := n0_
               have HO_185000 := n1_
               have HO_185001 := n2_
               have HA_HO204 := n3_
               have BK173 := n4_
               have BK184 := n5_
               have HI176 := n6_
               have HB := n7_
               clear n0_ n1_ n2_ n3_ n4_ n5_ n6_ n7_
               have hHeld : w59.cell? ⟨gb184, 0, none⟩ = some (.slice (some ad201) t177.length co16) ∧ w59.cell? ⟨gb184, 1, none⟩ = some (.slice Ao20 t180.length co20) ∧ w59.cell? (ad201.add ((rd y185 t188)).toNat) = some (.int .i64 (rd t177 (rd y185 t188))) := hS_
               obtain ⟨co60, eo60⟩ := HA_HO204.out
               clear HA_HO204
               subst eo60
               refine norm_ (a' := ?_) ?_ ?_
               rotate_left
               ·simp only [putAll, Act.put, List.setIfInBounds_toArray, List.set_cons_zero, List.set_cons_succ]
                rfl
               refine pure_ (i := 8) (N := some 57) (v := ?_) (a' := ?_) #[true, true, true, true, true, true, true, true, true, false, false, false] rfl rfl (any_of HT_.out (by kernel_rfl)) (fun _ _ _ h => h) (Or.inl ⟨by rfl, ?_⟩) ?_ ?_
               rotate_left
               ·intro w'
                go_simp
                with_reducible rfl
               rotate_left
               ·simp only [Act.put, List.setIfInBounds_toArray, List.set_cons_zero, List.set_cons_succ, i64_w, i32_w]
                rfl
               refine one_ (i := 9) (N := some 58) #[true, true, true, true, true, true, true, true, true, true, false, false] rfl rfl (one_of HT_.out (by kernel_rfl)) (by decide) (fun K hK => ?_)
               (have p207 : 0 ≤ (t205 : Int) := of_decide_eq_true (by first | (with_reducible assumption) | assumption); have q207 : t205 < (y202.length : Int) := of_decide_eq_true (by first | (with_reducible assumption) | assumption); obtain ⟨ad207, e207, hx207_0⟩ := Kd.at_int (qR HO204.out).2.2 t205 p207 q207; obtain rfl : adz_v203 = ad207 := (by injection e207))
               refine value_ (w1 := ?_) (v := ?_) (by rfl) rfl ?_ ?_
               rotate_left 2
               ·go_simp
                constructor
                ·rfl
                ·rfl
               clear hx207_0
               refine hK.out _ _ ⟨(zC BK184.out 0).trans rfl, (zC BK184.out 1).trans rfl, hHeld.2.2⟩ (fun hHeld => ?_)
               clear hK K
               refine norm_ (a' := ?_) ?_ ?_
               rotate_left
               ·show Act.put _ (some 58) _ = _
                simp only [Act.put, List.setIfInBounds_toArray, List.set_cons_zero, List.set_cons_succ, i64_w, i32_w]
                rfl
               refine pure_ (i := 10) (N := some 59) (v := ?_) (a' := ?_) #[true, true, true, true, true, true, true, true, true, true, true, false] rfl rfl (any_of HT_.out (by kernel_rfl)) (fun _ _ _ h => h) (Or.inl ⟨by rfl, ?_⟩) ?_ ?_
               rotate_left
               ·intro w'
                go_simp
                with_reducible rfl
               rotate_left
               ·simp only [Act.put, List.setIfInBounds_toArray, List.set_cons_zero, List.set_cons_succ, i64_w, i32_w]
                rfl
               refine pure_ (i := 11) (N := some 9) (v := ?_) (a' := ?_) #[true, true, true, true, true, true, true, true, true, true, true, true] rfl rfl (any_of HT_.out (by kernel_rfl)) (fun _ _ _ h => h) (Or.inl ⟨by rfl, ?_⟩) ?_ ?_
               rotate_left
               ·intro w'
                go_simp
                with_reducible rfl
               rotate_left
               ·simp only [Act.put, List.setIfInBounds_toArray, List.set_cons_zero, List.set_cons_succ, i64_w, i32_w]
                rfl
               refine done_ (done_of HT_.out (by kernel_rfl)) ?_
               try go_wp2
               have pi214 : (0 ≤ (t212 : Int)) = True := eq_true (of_decide_eq_true (by first | (with_reducible assumption) | assumption))
               have qi214 : (t212 < (y209.length : Int)) = True := eq_true (of_decide_eq_true (by first | (with_reducible assumption) | assumption))
               have n0_ := qM (qD HO_185000.out)
               have n1_ := qM (qD HO_185001.out)
               have n2_ := qM (qD HO204.out)
               have n3_ := qM (zD BK173.out)
               have n4_ := qM (zD BK184.out)
               have n5_ := qM (IsS93.drew HI176.out)
               have n6_ := qM (yD HB.out)
               clear HO_185000
               clear HO_185001
               clear HO204
               clear BK173
               clear BK184
               clear HI176
               clear HB
               have HO_185000 := n0_
               have HO_185001 := n1_
               have HO204 := n2_
               have BK173 := n3_
               have BK184 := n4_
               have HI176 := n5_
               have HB := n6_
               clear n0_ n1_ n2_ n3_ n4_ n5_ n6_
               have p208 : 0 ≤ ((rd y185 t188) : Int) := of_decide_eq_true (by first | (with_reducible assumption) | assumption)
               have q208 : (rd y185 t188) < (t180.length : Int) := of_decide_eq_true (by first | (with_reducible assumption) | assumption)
               obtain ⟨ad208, e208, hx208_0⟩ := Kd.at_int (qR HO_185001.out).2.2 (rd y185 t188) p208 q208
               cases e208
               replace p208 := eq_true p208
               replace q208 := eq_true q208
               refine start_ (n := 12) (S := fun w' => w'.cell? ⟨gb184, 0, none⟩ = some (.slice (some ad201) t177.length co16) ∧ w'.cell? ⟨gb184, 1, none⟩ = some (.slice (some ad208) t180.length co20) ∧ w'.cell? (ad208.add ((rd y185 t188)).toNat) = some (.int .i64 (rd t180 (rd y185 t188)))) (ds := []) #[false, false, false, false, false, false, false, false, false, false, false, false] (by kernel_rfl) rfl rfl ⟨(zC BK184.out 0).trans rfl, (zC BK184.out 1).trans rfl, hx208_0⟩ (fun hHeld => ?_); refine with_tabW spec_DrawHrdHear.tab8 spec_DrawHrdHear.bits8 (fun HT_ HW_ => ?_)
               generalize w59.drew = w61 at HO_185000 HO_185001 HO204 BK173 BK184 HI176 HB hx208_0 hHeld ⊢
               refine pure_ (i := 0) (N := some 60) (v := ?_) (a' := ?_) #[true, false, false, false, false, false, false, false, false, false, false, false] rfl rfl (any_of HT_.out (by kernel_rfl)) (fun _ _ _ h => h) (Or.inl ⟨by rfl, ?_⟩) ?_ ?_
               rotate_left
               ·intro w'
                go_simp
                with_reducible rfl
               rotate_left
               ·simp only [Act.put, List.setIfInBounds_toArray, List.set_cons_zero, List.set_cons_succ, i64_w, i32_w]
                rfl
               refine pure_ (i := 2) (N := some 62) (v := ?_) (a' := ?_) #[true, false, true, false, false, false, false, false, false, false, false, false] rfl rfl (any_of HT_.out (by kernel_rfl)) (fun _ _ _ h => h) (Or.inl ⟨by rfl, ?_⟩) ?_ ?_
               rotate_left
               ·intro w'
                go_simp
                with_reducible rfl
               rotate_left
               ·simp only [Act.put, List.setIfInBounds_toArray, List.set_cons_zero, List.set_cons_succ, i64_w, i32_w]
                rfl
               refine pure_ (i := 6) (N := some 66) (v := ?_) (a' := ?_) #[true, false, true, false, false, false, true, false, false, false, false, false] rfl rfl (any_of HT_.out (by kernel_rfl)) (fun _ _ _ h => h) (Or.inl ⟨by rfl, ?_⟩) ?_ ?_
               rotate_left
               ·intro w'
                go_simp
                with_reducible rfl
               rotate_left
               ·simp only [Act.put, List.setIfInBounds_toArray, List.set_cons_zero, List.set_cons_succ, i64_w, i32_w]
                rfl
               refine take_ (i := 1) (N := some 61) (v := ?_) (a' := ?_) #[true, true, true, false, false, false, true, false, false, false, false, false] rfl rfl (take_ofW HT_.out HW_.out (by kernel_rfl)) (fun _ _ _ h => h) (Or.inl ⟨by rfl, ?_⟩) hHeld ?_ ?_
               rotate_left
               ·rintro w' ⟨s0, s1, s2⟩
                go_simp
                with_reducible rfl
               rotate_left
               ·simp only [Act.put, List.setIfInBounds_toArray, List.set_cons_zero, List.set_cons_succ, i64_w, i32_w]
                rfl
               refine pure_ (i := 3) (N := some 63) (v := ?_) (a' := ?_) #[true, true, true, true, false, false, true, false, false, false, false, false] rfl rfl (any_of HT_.out (by kernel_rfl)) (fun _ _ _ h => h) (Or.inl ⟨by rfl, ?_⟩) ?_ ?_
               rotate_left
               ·intro w'
                go_simp
                with_reducible rfl
               rotate_left
               ·simp only [Act.put, List.setIfInBounds_toArray, List.set_cons_zero, List.set_cons_succ, i64_w, i32_w]
                rfl
               refine take_ (i := 4) (N := some 64) (v := ?_) (a' := ?_) #[true, true, true, true, true, false, true, false, false, false, false, false] rfl rfl (take_ofW HT_.out HW_.out (by kernel_rfl)) (fun _ _ _ h => h) (Or.inl ⟨by rfl, ?_⟩) hHeld ?_ ?_
               rotate_left
               ·rintro w' ⟨s0, s1, s2⟩
                go_simp
                with_reducible rfl
               rotate_left
               ·simp only [Act.put, List.setIfInBounds_toArray, List.set_cons_zero, List.set_cons_succ, i64_w, i32_w]
                rfl
               refine join_ (σ := Value × Addr) 4 #[true, true, true, true, true, true, true, true, false, false, false, false] (fun s_ => [(65, s_.1), (67, .int .i64 t212)]) (fun s_ w' => (w'.cell? ⟨gb184, 0, none⟩ = some (.slice (some ad201) t177.length co16) ∧ w'.cell? ⟨gb184, 1, none⟩ = some (.slice (some ad208) t180.length co20) ∧ w'.cell? (ad208.add ((rd y185 t188)).toNat) = some (.int .i64 (rd t180 (rd y185 t188)))) ∧ (Kd.R (Kd.int .i64) 3 w' w.heap.size (fun k_ => some k_ ≠ (s_.1 : Value).ownBlock ∧ some k_ ≠ (.slice (some ad201) t177.length co16 : Value).ownBlock ∧ some k_ ≠ (.slice (some ad208) t180.length co20 : Value).ownBlock) (.slice (some adz_v203) y202.length co60) y202) ∧ (Kd.R (Kd.int .i64) 3 w' w.heap.size (fun k_ => some k_ ≠ (.slice (some adz_v203) y202.length co60 : Value).ownBlock ∧ some k_ ≠ (.slice (some ad201) t177.length co16 : Value).ownBlock ∧ some k_ ≠ (.slice (some ad208) t180.length co20 : Value).ownBlock) s_.1 y209) ∧ (Kd.R (Kd.int .i64) 3 w' w.heap.size (fun k_ => some k_ ≠ (.slice (some adz_v203) y202.length co60 : Value).ownBlock ∧ some k_ ≠ (s_.1 : Value).ownBlock ∧ some k_ ≠ (.slice (some ad208) t180.length co20 : Value).ownBlock) (.slice (some ad201) t177.length co16) t177) ∧ (Kd.R (Kd.int .i64) 3 w' w.heap.size (fun k_ => some k_ ≠ (.slice (some adz_v203) y202.length co60 : Value).ownBlock ∧ some k_ ≠ (s_.1 : Value).ownBlock ∧ some k_ ≠ (.slice (some ad201) t177.length co16 : Value).ownBlock) (.slice (some ad208) t180.length co20) t180) ∧ (∃ c_, (s_.1 : Value) = .slice (some s_.2) y209.length c_) ∧ (w'.heap[gb173]? = some (.cells #[.slice none 0 0, .slice none 0 0] 37 (0, 0))) ∧ (w'.heap[gb184]? = some (.cells #[.slice (some ad201) t177.length co16, .slice (some ad208) t180.length co20] 37 (0, 0))) ∧ (IsS93 w w' g176 t174 t213) ∧ (Below w.heap.size w w')) ?_ ?_
               rotate_left
               ·intro hCont
                refine two_ (i := 5) (j := 7) (Ni := some 65) (Nj := some 67) #[true, true, true, true, true, true, true, false, false, false, false, false] #[true, true, true, true, true, false, true, true, false, false, false, false] rfl rfl rfl rfl (two_of HT_.out (by kernel_rfl)) (by decide) (by decide) (fun K hK => ?_) (fun K hK => ?_)
                ·skip
                 refine Kd.R_lit_step (Kd.int .i64) _ 3 ?hg (N := 65) ?hd (xs := ([0, 1, 1, (-1)] : List Int)) (inner := [.int .i64 0, .int .i64 1, .int .i64 1, .int .i64 (-1)]) (ok := fun _ => True) (okp := fun _ => True) ?hr ?hp (fun _ hk => hk) trivial (Below.refl _ _) (Nat.le_refl _) (by simp) ?_; (case hd => rfl); (case hg => rfl); (case hr => first | (go_simp; done) | (go_simp; rfl)); (case hp => exact (Reps.one (show Kd.M (Kd.int .i64) _ _ _ 0 [.int .i64 0] from rfl) (Reps.one (show Kd.M (Kd.int .i64) _ _ _ 1 [.int .i64 1] from rfl) (Reps.one (show Kd.M (Kd.int .i64) _ _ _ 1 [.int .i64 1] from rfl) (Reps.one (show Kd.M (Kd.int .i64) _ _ _ (-1) [.int .i64 (-1)] from rfl) (Reps.none _ _))))))
                 intro v210 w62 ho63 hb hg_ hnew_
                 have HS2_ := (hb.cell (World.block_lt_of_cell? _ _ (hHeld.2.2))).trans (hHeld.2.2)
                 clear hg_ hnew_
                 (first | rw [← Ny209.out] at ho63 | (simp only [Int.reduceToNat] at ho63; rw [← Ny209.out] at ho63))
                 have n0_ := qM (Kd.R_elder' (by (with_reducible repeat (first | apply qA | apply qN | apply qD)); exact HO_185000.out) (Kd.R_base ho63) hb)
                 have n1_ := qM (Kd.R_elder' (by (with_reducible repeat (first | apply qA | apply qN | apply qD)); exact HO_185001.out) (Kd.R_base ho63) hb)
                 have n2_ := qM (Kd.R_elder' (by (with_reducible repeat (first | apply qA | apply qN | apply qD)); exact HO204.out) (Kd.R_base ho63) hb)
                 have n3_ := qM (Kd.R_lower (Kd.R_new' (Kd.R_new' (Kd.R_new' ho63 (Kd.R_lt (by (with_reducible repeat (first | apply qA | apply qN | apply qD)); exact HO_185000.out))) (Kd.R_lt (by (with_reducible repeat (first | apply qA | apply qN | apply qD)); exact HO_185001.out))) (Kd.R_lt (by (with_reducible repeat (first | apply qA | apply qN | apply qD)); exact HO204.out))) (below_size (by repeat (first | (with_reducible first | exact HB.out | apply yA | apply yN | apply yD | refine yS ?_ (IsS93.ge HI176.out) | refine yS ?_ GE173.out | refine yS ?_ GE184.out) | exact HB.out))))
                 have n4_ := qM (blk_below (g := gb173) (o := .cells #[.slice none 0 0, .slice none 0 0] 37 (0, 0)) (by (with_reducible repeat (first | refine zN ?_ _ | refine zD ?_ | refine zA ?_ _)); exact BK173.out) hb)
                 have n5_ := qM (blk_below (g := gb184) (o := .cells #[.slice (some ad201) t177.length co16, .slice (some ad208) t180.length co20] 37 (0, 0)) (by (with_reducible repeat (first | refine zN ?_ _ | refine zD ?_ | refine zA ?_ _)); exact BK184.out) hb)
                 have n6_ := qM (IsS93.below (by repeat (first | (with_reducible first | exact HI176.out | apply IsS93.alloc | apply IsS93.drewN | apply IsS93.drew | apply IsS93.set_1 | refine IsS93.far ?_ NB176_173.out _ | refine IsS93.far ?_ NB176_184.out _) | exact HI176.out)) hb)
                 have n7_ := qM (below_step (by repeat (first | (with_reducible first | exact HB.out | apply yA | apply yN | apply yD | refine yS ?_ (IsS93.ge HI176.out) | refine yS ?_ GE173.out | refine yS ?_ GE184.out) | exact HB.out)) hb)
                 clear HO_185000
                 clear HO_185001
                 clear HO204
                 clear BK173
                 clear BK184
                 clear HI176
                 clear HB
                 have HO_185000 := n0_
                 have HO_185001 := n1_
                 have HO204 := n2_
                 have HO211 := n3_
                 have BK173 := n4_
                 have BK184 := n5_
                 have HI176 := n6_
                 have HB := n7_
                 clear n0_ n1_ n2_ n3_ n4_ n5_ n6_ n7_
                 clear hb ho63
                 obtain ⟨Ao64, co64, eo64⟩ := Kd.R_slice HO211.out
                 subst eo64
                 obtain ⟨ado64, fo64, _⟩ := Kd.at_int (qR HO211.out).2.2 0 (by decide) (by rw [Ny209.out]; simp)
                 cases fo64
                 refine hK.out _ _ ⟨(zC BK184.out 0).trans rfl, (zC BK184.out 1).trans rfl, HS2_⟩ (fun hHeld => ?_)
                 clear hK K
                 refine norm_ (a' := ?_) ?_ ?_
                 rotate_left
                 ·show Act.put _ (some 65) _ = _
                  simp only [Act.put, List.setIfInBounds_toArray, List.set_cons_zero, List.set_cons_succ, i64_w, i32_w]
                  rfl
                 refine one_ (i := 7) (N := some 67) #[true, true, true, true, true, true, true, true, false, false, false, false] rfl rfl (one_of HT_.out (by kernel_rfl)) (by decide) (fun K hK => ?_)
                 refine goes_ Try.func53 (by kernel_rfl) rfl #[.pointer (some ⟨g176, 0, none⟩), .int .i64 4] (by rfl) rfl rfl (by (try simp only [List.map_toArray, List.map_cons, List.map_nil]); first | done | rfl | (simp only [List.length_drop, List.length_take]; rfl)) ?_
                 with_reducible refine (spec_l30Rd_pick.calls kj10 g176 t174 t206 4 t212 t213 w _ ?side1 ?side2 A51.out).mono ?_
                 (case side1 => repeat (first | (with_reducible first | exact HI176.out | apply IsS93.alloc | apply IsS93.drewN | apply IsS93.drew | apply IsS93.set_1 | refine IsS93.far ?_ NB176_173.out _ | refine IsS93.far ?_ NB176_184.out _) | exact HI176.out))
                 (case side2 => repeat (first | (with_reducible first | exact HB.out | apply yA | apply yN | apply yD | refine yS ?_ (IsS93.ge HI176.out) | refine yS ?_ GE173.out | refine yS ?_ GE184.out) | exact HB.out))
                 rintro e w65 ⟨rfl, hi, hb, hk⟩
                 have HS2_ := keep_cell hk (hHeld.2.2) (by first | (rw [add_block]; exact Kd.own_blk (IsS93.own_ne HI176.out HO_185001.out (by decide))) | (show (Addr.add _ _).block ≠ _; rw [add_block]; exact Kd.own_blk (IsS93.own_ne HI176.out HO_185001.out (by decide))) | exact Kd.own_blk (IsS93.own_ne HI176.out HO_185001.out (by decide)))
                 refine ⟨_, rfl, ?_⟩
                 have n0_ := qM (Kd.R_mono (Kd.R_keep (IsS93.apart (show IsS93 w _ g176 t174 t206 from by repeat (first | (with_reducible first | exact HI176.out | apply IsS93.alloc | apply IsS93.drewN | apply IsS93.drew | apply IsS93.set_1 | refine IsS93.far ?_ NB176_173.out _ | refine IsS93.far ?_ NB176_184.out _) | exact HI176.out)) (by (with_reducible repeat (first | apply qA | apply qN | apply qD)); exact HO_185000.out) (by decide)) hk (fun _ h => h.2)) (fun _ h => h.1))
                 have n1_ := qM (Kd.R_mono (Kd.R_keep (IsS93.apart (show IsS93 w _ g176 t174 t206 from by repeat (first | (with_reducible first | exact HI176.out | apply IsS93.alloc | apply IsS93.drewN | apply IsS93.drew | apply IsS93.set_1 | refine IsS93.far ?_ NB176_173.out _ | refine IsS93.far ?_ NB176_184.out _) | exact HI176.out)) (by (with_reducible repeat (first | apply qA | apply qN | apply qD)); exact HO_185001.out) (by decide)) hk (fun _ h => h.2)) (fun _ h => h.1))
                 have n2_ := qM (KeepBut.blk hk (g' := gb173) (o := .cells #[.slice none 0 0, .slice none 0 0] 37 (0, 0)) (by (with_reducible repeat (first | refine zN ?_ _ | refine zD ?_ | refine zA ?_ _)); exact BK173.out) NB173_176.out (by simp))
                 have n3_ := qM (KeepBut.blk hk (g' := gb184) (o := .cells #[.slice (some ad201) t177.length co16, .slice (some ad208) t180.length co20] 37 (0, 0)) (by (with_reducible repeat (first | refine zN ?_ _ | refine zD ?_ | refine zA ?_ _)); exact BK184.out) NB184_176.out (by simp))
                 have n4_ := qM (Kd.R_mono (Kd.R_keep (IsS93.apart (show IsS93 w _ g176 t174 t206 from by repeat (first | (with_reducible first | exact HI176.out | apply IsS93.alloc | apply IsS93.drewN | apply IsS93.drew | apply IsS93.set_1 | refine IsS93.far ?_ NB176_173.out _ | refine IsS93.far ?_ NB176_184.out _) | exact HI176.out)) (by (with_reducible repeat (first | apply qA | apply qN | apply qD)); exact HO204.out) (by decide)) hk (fun _ h => h.2)) (fun _ h => h.1))
                 have n5_ := qM (Kd.R_mono (Kd.R_keep (IsS93.apart (show IsS93 w _ g176 t174 t206 from by repeat (first | (with_reducible first | exact HI176.out | apply IsS93.alloc | apply IsS93.drewN | apply IsS93.drew | apply IsS93.set_1 | refine IsS93.far ?_ NB176_173.out _ | refine IsS93.far ?_ NB176_184.out _) | exact HI176.out)) (by (with_reducible repeat (first | apply qA | apply qN | apply qD)); exact HO211.out) (by decide)) hk (fun _ h => h.2)) (fun _ h => h.1))
                 have n6_ := qM (hb)
                 have n7_ := qM (hi)
                 clear HO_185000
                 clear HO_185001
                 clear BK173
                 clear BK184
                 clear HO204
                 clear HO211
                 clear HB
                 clear HI176
                 have HO_185000 := n0_
                 have HO_185001 := n1_
                 have BK173 := n2_
                 have BK184 := n3_
                 have HO204 := n4_
                 have HO211 := n5_
                 have HB := n6_
                 have HI176 := n7_
                 clear n0_ n1_ n2_ n3_ n4_ n5_ n6_ n7_
                 (try clear hb)
                 (try clear hb2)
                 (try clear hk)
                 (try clear hi)
                 refine hK.out _ _ ⟨(zC BK184.out 0).trans rfl, (zC BK184.out 1).trans rfl, HS2_⟩ (fun hHeld => ?_)
                 clear hK K
                 refine norm_ (a' := ?_) ?_ ?_
                 rotate_left
                 ·show Act.put _ (some 67) _ = _
                  simp only [Act.put, List.setIfInBounds_toArray, List.set_cons_zero, List.set_cons_succ, i64_w, i32_w]
                  rfl
                 exact norm_ (by simp only [putAll, Act.put, List.setIfInBounds_toArray, List.set_cons_zero, List.set_cons_succ]) (hCont (.slice (some ado64) y209.length co64, ado64) _ ⟨hHeld, (by (with_reducible repeat (first | apply qA | apply qN | apply qD)); exact Kd.R_mono HO204.out (fun _ hk => ⟨hk.2, ⟨hk.1.1, hk.1.2⟩⟩)), (by (with_reducible repeat (first | apply qA | apply qN | apply qD)); exact Kd.R_mono HO211.out (fun _ hk => ⟨hk.2, ⟨hk.1.1.2, hk.1.2⟩⟩)), (by (with_reducible repeat (first | apply qA | apply qN | apply qD)); exact Kd.R_mono HO_185000.out (fun _ hk => ⟨hk.1.1, ⟨hk.2, hk.1.2⟩⟩)), (by (with_reducible repeat (first | apply qA | apply qN | apply qD)); exact Kd.R_mono HO_185001.out (fun _ hk => ⟨hk.1.1, ⟨hk.2, hk.1.2⟩⟩)), ⟨_, rfl⟩, (by (with_reducible repeat (first | refine zN ?_ _ | refine zD ?_ | refine zA ?_ _)); exact BK173.out), (by (with_reducible repeat (first | refine zN ?_ _ | refine zD ?_ | refine zA ?_ _)); exact BK184.out), (by repeat (first | (with_reducible first | exact HI176.out | apply IsS93.alloc | apply IsS93.drewN | apply IsS93.drew | apply IsS93.set_1 | refine IsS93.far ?_ NB176_173.out _ | refine IsS93.far ?_ NB176_184.out _) | exact HI176.out)), (by repeat (first | (with_reducible first | exact HB.out | apply yA | apply yN | apply yD | refine yS ?_ (IsS93.ge HI176.out) | refine yS ?_ GE173.out | refine yS ?_ GE184.out) | exact HB.out))⟩)
                ·skip
                 refine goes_ Try.func53 (by kernel_rfl) rfl #[.pointer (some ⟨g176, 0, none⟩), .int .i64 4] (by rfl) rfl rfl (by (try simp only [List.map_toArray, List.map_cons, List.map_nil]); first | done | rfl | (simp only [List.length_drop, List.length_take]; rfl)) ?_
                 with_reducible refine (spec_l30Rd_pick.calls kj10 g176 t174 t206 4 t212 t213 w _ ?side1 ?side2 A51.out).mono ?_
                 (case side1 => repeat (first | (with_reducible first | exact HI176.out | apply IsS93.alloc | apply IsS93.drewN | apply IsS93.drew | apply IsS93.set_1 | refine IsS93.far ?_ NB176_173.out _ | refine IsS93.far ?_ NB176_184.out _) | exact HI176.out))
                 (case side2 => repeat (first | (with_reducible first | exact HB.out | apply yA | apply yN | apply yD | refine yS ?_ (IsS93.ge HI176.out) | refine yS ?_ GE173.out | refine yS ?_ GE184.out) | exact HB.out))
                 rintro e w62 ⟨rfl, hi, hb, hk⟩
                 have HS2_ := keep_cell hk (hHeld.2.2) (by first | (rw [add_block]; exact Kd.own_blk (IsS93.own_ne HI176.out HO_185001.out (by decide))) | (show (Addr.add _ _).block ≠ _; rw [add_block]; exact Kd.own_blk (IsS93.own_ne HI176.out HO_185001.out (by decide))) | exact Kd.own_blk (IsS93.own_ne HI176.out HO_185001.out (by decide)))
                 refine ⟨_, rfl, ?_⟩
                 have n0_ := qM (Kd.R_mono (Kd.R_keep (IsS93.apart (show IsS93 w _ g176 t174 t206 from by repeat (first | (with_reducible first | exact HI176.out | apply IsS93.alloc | apply IsS93.drewN | apply IsS93.drew | apply IsS93.set_1 | refine IsS93.far ?_ NB176_173.out _ | refine IsS93.far ?_ NB176_184.out _) | exact HI176.out)) (by (with_reducible repeat (first | apply qA | apply qN | apply qD)); exact HO_185000.out) (by decide)) hk (fun _ h => h.2)) (fun _ h => h.1))
                 have n1_ := qM (Kd.R_mono (Kd.R_keep (IsS93.apart (show IsS93 w _ g176 t174 t206 from by repeat (first | (with_reducible first | exact HI176.out | apply IsS93.alloc | apply IsS93.drewN | apply IsS93.drew | apply IsS93.set_1 | refine IsS93.far ?_ NB176_173.out _ | refine IsS93.far ?_ NB176_184.out _) | exact HI176.out)) (by (with_reducible repeat (first | apply qA | apply qN | apply qD)); exact HO_185001.out) (by decide)) hk (fun _ h => h.2)) (fun _ h => h.1))
                 have n2_ := qM (KeepBut.blk hk (g' := gb173) (o := .cells #[.slice none 0 0, .slice none 0 0] 37 (0, 0)) (by (with_reducible repeat (first | refine zN ?_ _ | refine zD ?_ | refine zA ?_ _)); exact BK173.out) NB173_176.out (by simp))
                 have n3_ := qM (KeepBut.blk hk (g' := gb184) (o := .cells #[.slice (some ad201) t177.length co16, .slice (some ad208) t180.length co20] 37 (0, 0)) (by (with_reducible repeat (first | refine zN ?_ _ | refine zD ?_ | refine zA ?_ _)); exact BK184.out) NB184_176.out (by simp))
                 have n4_ := qM (Kd.R_mono (Kd.R_keep (IsS93.apart (show IsS93 w _ g176 t174 t206 from by repeat (first | (with_reducible first | exact HI176.out | apply IsS93.alloc | apply IsS93.drewN | apply IsS93.drew | apply IsS93.set_1 | refine IsS93.far ?_ NB176_173.out _ | refine IsS93.far ?_ NB176_184.out _) | exact HI176.out)) (by (with_reducible repeat (first | apply qA | apply qN | apply qD)); exact HO204.out) (by decide)) hk (fun _ h => h.2)) (fun _ h => h.1))
                 have n5_ := qM (hb)
                 have n6_ := qM (hi)
                 clear HO_185000
                 clear HO_185001
                 clear BK173
                 clear BK184
                 clear HO204
                 clear HB
                 clear HI176
                 have HO_185000 := n0_
                 have HO_185001 := n1_
                 have BK173 := n2_
                 have BK184 := n3_
                 have HO204 := n4_
                 have HB := n5_
                 have HI176 := n6_
                 clear n0_ n1_ n2_ n3_ n4_ n5_ n6_
                 (try clear hb)
                 (try clear hb2)
                 (try clear hk)
                 (try clear hi)
                 refine hK.out _ _ ⟨(zC BK184.out 0).trans rfl, (zC BK184.out 1).trans rfl, HS2_⟩ (fun hHeld => ?_)
                 clear hK K
                 refine norm_ (a' := ?_) ?_ ?_
                 rotate_left
                 ·show Act.put _ (some 67) _ = _
                  simp only [Act.put, List.setIfInBounds_toArray, List.set_cons_zero, List.set_cons_succ, i64_w, i32_w]
                  rfl
                 refine one_ (i := 5) (N := some 65) #[true, true, true, true, true, true, true, true, false, false, false, false] rfl rfl (one_of HT_.out (by kernel_rfl)) (by decide) (fun K hK => ?_)
                 refine Kd.R_lit_step (Kd.int .i64) _ 3 ?hg (N := 65) ?hd (xs := ([0, 1, 1, (-1)] : List Int)) (inner := [.int .i64 0, .int .i64 1, .int .i64 1, .int .i64 (-1)]) (ok := fun _ => True) (okp := fun _ => True) ?hr ?hp (fun _ hk => hk) trivial (Below.refl _ _) (Nat.le_refl _) (by simp) ?_; (case hd => rfl); (case hg => rfl); (case hr => first | (go_simp; done) | (go_simp; rfl)); (case hp => exact (Reps.one (show Kd.M (Kd.int .i64) _ _ _ 0 [.int .i64 0] from rfl) (Reps.one (show Kd.M (Kd.int .i64) _ _ _ 1 [.int .i64 1] from rfl) (Reps.one (show Kd.M (Kd.int .i64) _ _ _ 1 [.int .i64 1] from rfl) (Reps.one (show Kd.M (Kd.int .i64) _ _ _ (-1) [.int .i64 (-1)] from rfl) (Reps.none _ _))))))
                 intro v210 w63 ho64 hb hg_ hnew_
                 have HS2_ := (hb.cell (World.block_lt_of_cell? _ _ (hHeld.2.2))).trans (hHeld.2.2)
                 clear hg_ hnew_
                 (first | rw [← Ny209.out] at ho64 | (simp only [Int.reduceToNat] at ho64; rw [← Ny209.out] at ho64))
                 have n0_ := qM (Kd.R_elder' (by (with_reducible repeat (first | apply qA | apply qN | apply qD)); exact HO_185000.out) (Kd.R_base ho64) hb)
                 have n1_ := qM (Kd.R_elder' (by (with_reducible repeat (first | apply qA | apply qN | apply qD)); exact HO_185001.out) (Kd.R_base ho64) hb)
                 have n2_ := qM (Kd.R_elder' (by (with_reducible repeat (first | apply qA | apply qN | apply qD)); exact HO204.out) (Kd.R_base ho64) hb)
                 have n3_ := qM (Kd.R_lower (Kd.R_new' (Kd.R_new' (Kd.R_new' ho64 (Kd.R_lt (by (with_reducible repeat (first | apply qA | apply qN | apply qD)); exact HO_185000.out))) (Kd.R_lt (by (with_reducible repeat (first | apply qA | apply qN | apply qD)); exact HO_185001.out))) (Kd.R_lt (by (with_reducible repeat (first | apply qA | apply qN | apply qD)); exact HO204.out))) (below_size (by repeat (first | (with_reducible first | exact HB.out | apply yA | apply yN | apply yD | refine yS ?_ (IsS93.ge HI176.out) | refine yS ?_ GE173.out | refine yS ?_ GE184.out) | exact HB.out))))
                 have n4_ := qM (blk_below (g := gb173) (o := .cells #[.slice none 0 0, .slice none 0 0] 37 (0, 0)) (by (with_reducible repeat (first | refine zN ?_ _ | refine zD ?_ | refine zA ?_ _)); exact BK173.out) hb)
                 have n5_ := qM (blk_below (g := gb184) (o := .cells #[.slice (some ad201) t177.length co16, .slice (some ad208) t180.length co20] 37 (0, 0)) (by (with_reducible repeat (first | refine zN ?_ _ | refine zD ?_ | refine zA ?_ _)); exact BK184.out) hb)
                 have n6_ := qM (IsS93.below (by repeat (first | (with_reducible first | exact HI176.out | apply IsS93.alloc | apply IsS93.drewN | apply IsS93.drew | apply IsS93.set_1 | refine IsS93.far ?_ NB176_173.out _ | refine IsS93.far ?_ NB176_184.out _) | exact HI176.out)) hb)
                 have n7_ := qM (below_step (by repeat (first | (with_reducible first | exact HB.out | apply yA | apply yN | apply yD | refine yS ?_ (IsS93.ge HI176.out) | refine yS ?_ GE173.out | refine yS ?_ GE184.out) | exact HB.out)) hb)
                 clear HO_185000
                 clear HO_185001
                 clear HO204
                 clear BK173
                 clear BK184
                 clear HI176
                 clear HB
                 have HO_185000 := n0_
                 have HO_185001 := n1_
                 have HO204 := n2_
                 have HO211 := n3_
                 have BK173 := n4_
                 have BK184 := n5_
                 have HI176 := n6_
                 have HB := n7_
                 clear n0_ n1_ n2_ n3_ n4_ n5_ n6_ n7_
                 clear hb ho64
                 obtain ⟨Ao65, co65, eo65⟩ := Kd.R_slice HO211.out
                 subst eo65
                 obtain ⟨ado65, fo65, _⟩ := Kd.at_int (qR HO211.out).2.2 0 (by decide) (by rw [Ny209.out]; simp)
                 cases fo65
                 refine hK.out _ _ ⟨(zC BK184.out 0).trans rfl, (zC BK184.out 1).trans rfl, HS2_⟩ (fun hHeld => ?_)
                 clear hK K
                 refine norm_ (a' := ?_) ?_ ?_
                 rotate_left
                 ·show Act.put _ (some 65) _ = _
                  simp only [Act.put, List.setIfInBounds_toArray, List.set_cons_zero, List.set_cons_succ, i64_w, i32_w]
                  rfl
                 exact norm_ (by simp only [putAll, Act.put, List.setIfInBounds_toArray, List.set_cons_zero, List.set_cons_succ]) (hCont (.slice (some ado65) y209.length co65, ado65) _ ⟨hHeld, (by (with_reducible repeat (first | apply qA | apply qN | apply qD)); exact Kd.R_mono HO204.out (fun _ hk => ⟨hk.2, ⟨hk.1.1, hk.1.2⟩⟩)), (by (with_reducible repeat (first | apply qA | apply qN | apply qD)); exact Kd.R_mono HO211.out (fun _ hk => ⟨hk.2, ⟨hk.1.1.2, hk.1.2⟩⟩)), (by (with_reducible repeat (first | apply qA | apply qN | apply qD)); exact Kd.R_mono HO_185000.out (fun _ hk => ⟨hk.1.1, ⟨hk.2, hk.1.2⟩⟩)), (by (with_reducible repeat (first | apply qA | apply qN | apply qD)); exact Kd.R_mono HO_185001.out (fun _ hk => ⟨hk.1.1, ⟨hk.2, hk.1.2⟩⟩)), ⟨_, rfl⟩, (by (with_reducible repeat (first | refine zN ?_ _ | refine zD ?_ | refine zA ?_ _)); exact BK173.out), (by (with_reducible repeat (first | refine zN ?_ _ | refine zD ?_ | refine zA ?_ _)); exact BK184.out), (by repeat (first | (with_reducible first | exact HI176.out | apply IsS93.alloc | apply IsS93.drewN | apply IsS93.drew | apply IsS93.set_1 | refine IsS93.far ?_ NB176_173.out _ | refine IsS93.far ?_ NB176_184.out _) | exact HI176.out)), (by repeat (first | (with_reducible first | exact HB.out | apply yA | apply yN | apply yD | refine yS ?_ (IsS93.ge HI176.out) | refine yS ?_ GE173.out | refine yS ?_ GE184.out) | exact HB.out))⟩)
               rintro ⟨v210, adz_v210⟩ w66 ⟨hS_, h0_, h1_, h2_, h3_, h4_, h5_, h6_, h7_, h8_⟩
               have n0_ : Aside0 (Kd.R (Kd.int .i64) 3 w66 w.heap.size (fun k_ => some k_ ≠ (v210 : Value).ownBlock ∧ some k_ ≠ (.slice (some ad201) t177.length co16 : Value).ownBlock ∧ some k_ ≠ (.slice (some ad208) t180.length co20 : Value).ownBlock) (.slice (some adz_v203) y202.length co60) y202) := ⟨h0_⟩
               have n1_ : Aside0 (Kd.R (Kd.int .i64) 3 w66 w.heap.size (fun k_ => some k_ ≠ (.slice (some adz_v203) y202.length co60 : Value).ownBlock ∧ some k_ ≠ (.slice (some ad201) t177.length co16 : Value).ownBlock ∧ some k_ ≠ (.slice (some ad208) t180.length co20 : Value).ownBlock) v210 y209) := ⟨h1_⟩
               have n2_ : Aside0 (Kd.R (Kd.int .i64) 3 w66 w.heap.size (fun k_ => some k_ ≠ (.slice (some adz_v203) y202.length co60 : Value).ownBlock ∧ some k_ ≠ (v210 : Value).ownBlock ∧ some k_ ≠ (.slice (some ad208) t180.length co20 : Value).ownBlock) (.slice (some ad201) t177.length co16) t177) := ⟨h2_⟩
               have n3_ : Aside0 (Kd.R (Kd.int .i64) 3 w66 w.heap.size (fun k_ => some k_ ≠ (.slice (some adz_v203) y202.length co60 : Value).ownBlock ∧ some k_ ≠ (v210 : Value).ownBlock ∧ some k_ ≠ (.slice (some ad201) t177.length co16 : Value).ownBlock) (.slice (some ad208) t180.length co20) t180) := ⟨h3_⟩
               have n4_ : Aside0 (∃ c_, (v210 : Value) = .slice (some adz_v210) y209.length c_) := ⟨h4_⟩
               have n5_ : Aside0 (w66.heap[gb173]? = some (.cells #[.slice none 0 0, .slice none 0 0] 37 (0, 0))) := ⟨h5_⟩
               have n6_ : Aside0 (w66.heap[gb184]? = some (.cells #[.slice (some ad201) t177.length co16, .slice (some ad208) t180.length co20] 37 (0, 0))) := ⟨h6_⟩
               have n7_ : Aside0 (IsS93 w w66 g176 t174 t213) := ⟨h7_⟩
               have n8_ : Aside0 (Below w.heap.size w w66) := ⟨h8_⟩
               clear HO_185000
               clear HO_185001
               clear HO204
               clear BK173
               clear BK184
               clear HI176
               clear HB
               clear h0_ h1_ h2_ h3_ h4_ h5_ h6_ h7_ h8_
               have HO204 := n0_
               have HO211 := n1_
               have HO_185000 := n2_
               have HO_185001 := n3_
               have HA_HO211 := n4_
               have BK173 := n5_
               have BK184 := n6_
               have HI176 := n7_
               have HB := n8_
               clear n0_ n1_ n2_ n3_ n4_ n5_ n6_ n7_ n8_
               have hHeld : w66.cell? ⟨gb184, 0, none⟩ = some (.slice (some ad201) t177.length co16) ∧ w66.cell? ⟨gb184, 1, none⟩ = some (.slice (some ad208) t180.length co20) ∧ w66.cell? (ad208.add ((rd y185 t188)).toNat) = some (.int .i64 (rd t180 (rd y185 t188))) := hS_
               obtain ⟨co67, eo67⟩ := HA_HO211.out
               clear HA_HO211
               subst eo67
               refine norm_ (a' := ?_) ?_ ?_
               rotate_left
               ·simp only [putAll, Act.put, List.setIfInBounds_toArray, List.set_cons_zero, List.set_cons_succ]
                rfl
               refine pure_ (i := 8) (N := some 68) (v := ?_) (a' := ?_) #[true, true, true, true, true, true, true, true, true, false, false, false] rfl rfl (any_of HT_.out (by kernel_rfl)) (fun _ _ _ h => h) (Or.inl ⟨by rfl, ?_⟩) ?_ ?_
               rotate_left
               ·intro w'
                go_simp
                with_reducible rfl
               rotate_left
               ·simp only [Act.put, List.setIfInBounds_toArray, List.set_cons_zero, List.set_cons_succ, i64_w, i32_w]
                rfl
               refine one_ (i := 9) (N := some 69) #[true, true, true, true, true, true, true, true, true, true, false, false] rfl rfl (one_of HT_.out (by kernel_rfl)) (by decide) (fun K hK => ?_)
               (have p214 : 0 ≤ (t212 : Int) := of_decide_eq_true (by first | (with_reducible assumption) | assumption); have q214 : t212 < (y209.length : Int) := of_decide_eq_true (by first | (with_reducible assumption) | assumption); obtain ⟨ad214, e214, hx214_0⟩ := Kd.at_int (qR HO211.out).2.2 t212 p214 q214; obtain rfl : adz_v210 = ad214 := (by injection e214))
               refine value_ (w1 := ?_) (v := ?_) (by rfl) rfl ?_ ?_
               rotate_left 2
               ·go_simp
                constructor
                ·rfl
                ·rfl
               clear hx214_0
               refine hK.out _ _ ⟨(zC BK184.out 0).trans rfl, (zC BK184.out 1).trans rfl, hHeld.2.2⟩ (fun hHeld => ?_)
               clear hK K
               refine norm_ (a' := ?_) ?_ ?_
               rotate_left
               ·show Act.put _ (some 69) _ = _
                simp only [Act.put, List.setIfInBounds_toArray, List.set_cons_zero, List.set_cons_succ, i64_w, i32_w]
                rfl
               refine pure_ (i := 10) (N := some 70) (v := ?_) (a' := ?_) #[true, true, true, true, true, true, true, true, true, true, true, false] rfl rfl (any_of HT_.out (by kernel_rfl)) (fun _ _ _ h => h) (Or.inl ⟨by rfl, ?_⟩) ?_ ?_
               rotate_left
               ·intro w'
                go_simp
                with_reducible rfl
               rotate_left
               ·simp only [Act.put, List.setIfInBounds_toArray, List.set_cons_zero, List.set_cons_succ, i64_w, i32_w]
                rfl
               refine pure_ (i := 11) (N := some 10) (v := ?_) (a' := ?_) #[true, true, true, true, true, true, true, true, true, true, true, true] rfl rfl (any_of HT_.out (by kernel_rfl)) (fun _ _ _ h => h) (Or.inl ⟨by rfl, ?_⟩) ?_ ?_
               rotate_left
               ·intro w'
                go_simp
                with_reducible rfl
               rotate_left
               ·simp only [Act.put, List.setIfInBounds_toArray, List.set_cons_zero, List.set_cons_succ, i64_w, i32_w]
                rfl
               refine done_ (done_of HT_.out (by kernel_rfl)) ?_
               have hnb68 := NB184_173.out
               have hnc68 := NB173_184.out
               have hnb69 := NB184_176.out
               have hnc69 := NB176_184.out
               have hcz70_0 : w66.cell? ⟨gb184, 0, none⟩ = some (.slice (some ad201) t177.length co16) := (zC BK184.out 0).trans rfl
               have hcz70_1 : w66.cell? ⟨gb184, 1, none⟩ = some (.slice (some ad208) t180.length co20) := (zC BK184.out 1).trans rfl
               have hfz70_0 := zF BK184.out 0
               have hfz70_1 := zF BK184.out 1
               have hnb71 := NB173_176.out
               have hnc71 := NB176_173.out
               have hcz72_0 : w66.cell? ⟨gb173, 0, none⟩ = some (.slice none 0 0) := (zC BK173.out 0).trans rfl
               have hcz72_1 : w66.cell? ⟨gb173, 1, none⟩ = some (.slice none 0 0) := (zC BK173.out 1).trans rfl
               have hfz72_0 := zF BK173.out 0
               have hfz72_1 := zF BK173.out 1
               try go_wp2
               refine bodyPost_ret (results_list (rs := [.cell 2 37, .tmp 3, .tmp 4, .tmp 5]) rfl (by simp) (.cell gb173 37 #[.slice (some ad201) t177.length co16, .slice (some ad208) t180.length co20] (0, 0) _ rfl (by (with_reducible repeat (first | refine zN ?_ _ | refine zD ?_ | refine zA ?_ _)); refine blk_put (cs := #[.slice (some ad201) t177.length co16, .slice none 0 0]) ?_ 1 _ rfl; (with_reducible repeat (first | refine zN ?_ _ | refine zD ?_ | refine zA ?_ _)); refine blk_put (cs := #[.slice none 0 0, .slice none 0 0]) ?_ 0 _ rfl; (with_reducible repeat (first | refine zN ?_ _ | refine zD ?_ | refine zA ?_ _)); exact BK173.out) Try.underlying37 rfl (by kernel_rfl) (.tmp (.tmp (.tmp .nil))))) rfl ?_
               exact ⟨_, _, by first | rfl | (simp [errW_none, errW_some] <;> rfl) | (simp [*, errW_none, errW_some] <;> rfl), by (with_reducible repeat (first | apply qA | apply qN | apply qD)); exact Kd.R_mono (qF (p := ⟨gb173, 1, none⟩) (qF (p := ⟨gb173, 0, none⟩) (Kd.R_types HO_185000.out BK173.out (by decide)) (fun _ hk => hk.2) (.slice (some ad201) t177.length co16)) (fun _ hk => hk.2) (.slice (some ad208) t180.length co20)) (fun _ hk => hk.1.2.2), by (with_reducible repeat (first | apply qA | apply qN | apply qD)); exact Kd.R_mono (qF (p := ⟨gb173, 1, none⟩) (qF (p := ⟨gb173, 0, none⟩) (Kd.R_types HO_185001.out BK173.out (by decide)) (fun _ hk => hk.2) (.slice (some ad201) t177.length co16)) (fun _ hk => hk.2) (.slice (some ad208) t180.length co20)) (fun _ hk => hk.1.2.2), by repeat (first | (with_reducible first | exact HB.out | apply yA | apply yN | apply yD | refine yS ?_ (IsS93.ge HI176.out) | refine yS ?_ GE173.out | refine yS ?_ GE184.out) | exact HB.out)⟩
              ·rw [if_neg c53] at H
               exact absurd H (by simp)
             ·rw [if_neg c52] at H
              exact absurd H (by simp)
            ·rw [if_neg c50] at H
             exact absurd H (by simp)
           ·rw [if_neg c49] at H
            exact absurd H (by simp)
          ·rw [if_neg c48] at H
           exact absurd H (by simp)
         ·rw [if_neg c46] at H
          exact absurd H (by simp)
        ·rw [if_neg c45] at H
         exact absurd H (by simp)
       ·replace c44 := Bool.eq_false_iff.mpr c44
        subst c44
        have H1 : (some (t177, t180, (rd y185 t188), (wrap64 (1 + t191)), (rd y193 t196))) = some (r1, r2, r3, r4, r5) := by rw [if_neg (show ¬ (false = true) by decide)] at H; exact H
        clear H
        have H := H1
        clear H1
        simp only [Option.some.injEq, Prod.mk.injEq] at H
        obtain ⟨rfl, rfl, rfl, rfl, rfl⟩ := H
        have hnb73 := NB184_173.out
        have hnc73 := NB173_184.out
        have hnb74 := NB184_176.out
        have hnc74 := NB176_184.out
        have hcz75_0 : wc.cell? ⟨gb184, 0, none⟩ = some (.slice Ao16 t177.length co16) := (zC BK184.out 0).trans rfl
        have hcz75_1 : wc.cell? ⟨gb184, 1, none⟩ = some (.slice Ao20 t180.length co20) := (zC BK184.out 1).trans rfl
        have hfz75_0 := zF BK184.out 0
        have hfz75_1 := zF BK184.out 1
        have hnb76 := NB173_176.out
        have hnc76 := NB176_173.out
        have hcz77_0 : wc.cell? ⟨gb173, 0, none⟩ = some (.slice none 0 0) := (zC BK173.out 0).trans rfl
        have hcz77_1 : wc.cell? ⟨gb173, 1, none⟩ = some (.slice none 0 0) := (zC BK173.out 1).trans rfl
        have hfz77_0 := zF BK173.out 0
        have hfz77_1 := zF BK173.out 1
        go_wp2
        refine bodyPost_ret (results_list (rs := [.cell 2 37, .tmp 3, .tmp 4, .tmp 5]) rfl (by simp) (.cell gb173 37 #[.slice Ao16 t177.length co16, .slice Ao20 t180.length co20] (0, 0) _ rfl (by (with_reducible repeat (first | refine zN ?_ _ | refine zD ?_ | refine zA ?_ _)); refine blk_put (cs := #[.slice Ao16 t177.length co16, .slice none 0 0]) ?_ 1 _ rfl; (with_reducible repeat (first | refine zN ?_ _ | refine zD ?_ | refine zA ?_ _)); refine blk_put (cs := #[.slice none 0 0, .slice none 0 0]) ?_ 0 _ rfl; (with_reducible repeat (first | refine zN ?_ _ | refine zD ?_ | refine zA ?_ _)); exact BK173.out) Try.underlying37 rfl (by kernel_rfl) (.tmp (.tmp (.tmp .nil))))) rfl ?_
        exact ⟨_, _, by first | rfl | (simp [errW_none, errW_some] <;> rfl) | (simp [*, errW_none, errW_some] <;> rfl), by (with_reducible repeat (first | apply qA | apply qN | apply qD)); exact Kd.R_mono (qF (p := ⟨gb173, 1, none⟩) (qF (p := ⟨gb173, 0, none⟩) (Kd.R_types HO_185000.out BK173.out (by decide)) (fun _ hk => hk.2) (.slice Ao16 t177.length co16)) (fun _ hk => hk.2) (.slice Ao20 t180.length co20)) (fun _ hk => hk.1), by (with_reducible repeat (first | apply qA | apply qN | apply qD)); exact Kd.R_mono (qF (p := ⟨gb173, 1, none⟩) (qF (p := ⟨gb173, 0, none⟩) (Kd.R_types HO_185001.out BK173.out (by decide)) (fun _ hk => hk.2) (.slice Ao16 t177.length co16)) (fun _ hk => hk.2) (.slice Ao20 t180.length co20)) (fun _ hk => hk.1), by repeat (first | (with_reducible first | exact HB.out | apply yA | apply yN | apply yD | refine yS ?_ (IsS93.ge HI176.out) | refine yS ?_ GE173.out | refine yS ?_ GE184.out) | exact HB.out)⟩
    ·rw [if_neg c10] at H
     exact absurd H (by simp)
   ·rw [if_neg c9] at H
    exact absurd H (by simp)
  ·rw [if_neg c6] at H
   exact absurd H (by simp)
 ·rw [if_neg c5] at H
  exact absurd H (by simp)

end Go.Proofs.Ytaohaebgpbagmaa.PFnHrdRises
