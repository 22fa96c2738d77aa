/- Functions that a law reaches, each with the walk that shows what its call answers; laid by a program of this session. -/
import Derived.Test.YtaohaebgpbagmaaPFnOutPeerx0
import Derived.Test.YtaohaebgpbagmaaPFnOutPeerx1
import Derived.Test.YtaohaebgpbagmaaPFnOutPeerx2
import Derived.Test.YtaohaebgpbagmaaPFnOutPeerx4
namespace Go.Proofs.Ytaohaebgpbagmaa.PFnOutPeer
open Go.RowKit Go.Proofs.YtaohaebgpbagmaaW.PrintWords Go.Proofs.YtaohaebgpbagmaaW.PrintLast Go.Proofs.YtaohaebgpbagmaaW.PrintMore
attribute [local go_sem] max2_int min2_int max_two min_two max_three min_three max_four min_four   -- for this text's walks alone
set_option linter.unusedVariables false
set_option linter.unusedSimpArgs false

attribute [local go_sem high] eqA53
open Go.Proofs.YtaohaebgpbagmaaAl
/-! ### laws_FnOutPeer: function 10 -/
mutual
def laws_FnOutPeer.j0 : Nat → List Int → List Int → Bool → Option (Bool)
 | 0, _, _, _ => none
 | k + 1, x0, x1, x19 => if x19 = true then (some true) else ((spec_DrawOutPeer.f k x0).bind fun bt186 => ((spec_DrawOutPeer.f k x1).bind fun bt192 => ((impl_OutPeer.f bt186.1 bt186.2.1 bt186.2.2.1 bt186.2.2.2.1 bt186.2.2.2.2).bind fun bt198 => ((spec_OutPeer.f k bt186.1 bt186.2.1 bt186.2.2.1 bt186.2.2.2.1 bt186.2.2.2.2).bind fun bt203 => (if (!(bt198.1 == bt203.1) || (!(bt198.2.1 == bt203.2.1) || (!(bt198.2.2.1 == bt203.2.2.1) || (!(bt198.2.2.2 == bt203.2.2.2))))) = true then (some false) else ((spec_OutOk.f bt198.1 bt198.2.1 bt198.2.2.1 bt198.2.2.2).bind fun t207 => (if t207 = true then (if bt192.2.2.2.2 < 0 then (laws_FnOutPeer.j1 k bt186.2.2.2.2 bt192.2.2.2.2 true bt186.1 bt186.2.1 bt186.2.2.1 bt186.2.2.2.1 bt198.1 bt198.2.1 bt198.2.2.1 bt198.2.2.2) else (laws_FnOutPeer.j1 k bt186.2.2.2.2 bt192.2.2.2.2 (decide (bt192.2.2.2.2 > 60000)) bt186.1 bt186.2.1 bt186.2.2.1 bt186.2.2.2.1 bt198.1 bt198.2.1 bt198.2.2.1 bt198.2.2.2)) else (laws_FnOutPeer.j1 k bt186.2.2.2.2 bt192.2.2.2.2 true bt186.1 bt186.2.1 bt186.2.2.1 bt186.2.2.2.1 bt198.1 bt198.2.1 bt198.2.2.1 bt198.2.2.2))))))))
def laws_FnOutPeer.j1 : Nat → Int → Int → Bool → Int → Int → Int → Int → Int → Int → Int → Int → Option (Bool)
 | 0, _, _, _, _, _, _, _, _, _, _, _ => none
 | k + 1, x6, x8, x48, x192000, x192001, x192002, x192003, x203000, x203001, x203002, x203003 => if x48 = true then ((impl_OutOpen.f 1).bind fun bt208 => ((impl_OutOk.f bt208.1 bt208.2.1 bt208.2.2.1 bt208.2.2.2).bind fun t212 => (if t212 = true then ((impl_OutOpen.f 2).bind fun bt213 => (some (bt213.1 == 2))) else (some false)))) else ((impl_OutPeer.f x203000 x203001 x203002 x203003 x8).bind fun bt217 => ((impl_OutPeer.f x192000 x192001 x192002 x192003 x8).bind fun bt222 => ((impl_OutPeer.f bt222.1 bt222.2.1 bt222.2.2.1 bt222.2.2.2 x6).bind fun bt226 => (if (bt217.1 == bt226.1 && (bt217.2.1 == bt226.2.1 && (bt217.2.2.1 == bt226.2.2.1 && (bt217.2.2.2 == bt226.2.2.2)))) = true then (if bt217.2.1 ≥ x203001 then (if bt217.2.2.2 = x192003 then (if bt217.2.2.1 = x192002 then ((impl_OutOpen.f x192000).bind fun bt231 => ((spec_OutOpen.f x192000).bind fun bt235 => (some (bt231.1 == bt235.1 && (bt231.2.1 == bt235.2.1 && (bt231.2.2.1 == bt235.2.2.1 && (bt231.2.2.2 == bt235.2.2.2))))))) else (some false)) else (some false)) else (some false)) else (some false)))))
end
def laws_FnOutPeer.f (k : Nat) (l0 : List Int) (l1 : List Int) : Option (Bool) := if (l0.length : Int) > 1048576 then (laws_FnOutPeer.j0 k l0 l1 true) else (laws_FnOutPeer.j0 k l0 l1 (decide ((l1.length : Int) > 1048576)))
theorem laws_FnOutPeer.mono_l : ∀ k, (∀ y0 y1 y2, LeO (laws_FnOutPeer.j0 k y0 y1 y2) (laws_FnOutPeer.j0 (k + 1) y0 y1 y2)) ∧ (∀ y0 y1 y2 y3 y4 y5 y6 y7 y8 y9 y10, LeO (laws_FnOutPeer.j1 k y0 y1 y2 y3 y4 y5 y6 y7 y8 y9 y10) (laws_FnOutPeer.j1 (k + 1) y0 y1 y2 y3 y4 y5 y6 y7 y8 y9 y10))
 | 0 => ⟨fun _ _ _ r h => by simp [laws_FnOutPeer.j0] at h, fun _ _ _ _ _ _ _ _ _ _ _ r h => by simp [laws_FnOutPeer.j1] at h⟩
 | k + 1 => by
  obtain ⟨ih0, ih1⟩ := laws_FnOutPeer.mono_l k
  refine ⟨?_, ?_⟩
  ·intro y0 y1 y2
   unfold laws_FnOutPeer.j0
   repeat' first
   | (with_reducible exact ih0 _ _ _)
   | (with_reducible exact ih1 _ _ _ _ _ _ _ _ _ _ _)
   | (with_reducible exact spec_DrawOutPeer.mono _ _)
   | (with_reducible exact spec_OutPeer.mono _ _ _ _ _ _)
   | (with_reducible exact LeO.refl _)
   | (with_reducible exact LeO.none _)
   | (with_reducible refine LeO.ite ?_ ?_)
   | (with_reducible refine LeO.bind ?_ (fun _ => ?_))
   | exact ih0 _ _ _
   | exact ih1 _ _ _ _ _ _ _ _ _ _ _
   | exact spec_DrawOutPeer.mono _ _
   | exact spec_OutPeer.mono _ _ _ _ _ _
   | exact LeO.none _
   | refine LeO.ite ?_ ?_
   | refine LeO.bind ?_ (fun _ => ?_)
  ·intro y0 y1 y2 y3 y4 y5 y6 y7 y8 y9 y10
   unfold laws_FnOutPeer.j1
   repeat' first
   | (with_reducible exact ih0 _ _ _)
   | (with_reducible exact ih1 _ _ _ _ _ _ _ _ _ _ _)
   | (with_reducible exact spec_DrawOutPeer.mono _ _)
   | (with_reducible exact spec_OutPeer.mono _ _ _ _ _ _)
   | (with_reducible exact LeO.refl _)
   | (with_reducible exact LeO.none _)
   | (with_reducible refine LeO.ite ?_ ?_)
   | (with_reducible refine LeO.bind ?_ (fun _ => ?_))
   | exact ih0 _ _ _
   | exact ih1 _ _ _ _ _ _ _ _ _ _ _
   | exact spec_DrawOutPeer.mono _ _
   | exact spec_OutPeer.mono _ _ _ _ _ _
   | exact LeO.none _
   | refine LeO.ite ?_ ?_
   | refine LeO.bind ?_ (fun _ => ?_)
theorem laws_FnOutPeer.mono : ∀ a0 a1 k, LeO (laws_FnOutPeer.f k a0 a1) (laws_FnOutPeer.f (k + 1) a0 a1) := by
 intro a0 a1 k
 obtain ⟨ih0, ih1⟩ := laws_FnOutPeer.mono_l k
 unfold laws_FnOutPeer.f
 repeat' first
   | (with_reducible exact ih0 _ _ _)
   | (with_reducible exact ih1 _ _ _ _ _ _ _ _ _ _ _)
   | (with_reducible exact spec_DrawOutPeer.mono _ _)
   | (with_reducible exact spec_OutPeer.mono _ _ _ _ _ _)
   | (with_reducible exact LeO.refl _)
   | (with_reducible exact LeO.none _)
   | (with_reducible refine LeO.ite ?_ ?_)
   | (with_reducible refine LeO.bind ?_ (fun _ => ?_))
   | exact ih0 _ _ _
   | exact ih1 _ _ _ _ _ _ _ _ _ _ _
   | exact spec_DrawOutPeer.mono _ _
   | exact spec_OutPeer.mono _ _ _ _ _ _
   | exact LeO.none _
   | refine LeO.ite ?_ ?_
   | refine LeO.bind ?_ (fun _ => ?_)
def laws_FnOutPeer.T12 : Bool × List (List Nat × List Nat) := (true, [([], []), ([], []), ([0, 1], [0, 1]), ([2], [2]), ([3], [3]), ([4, 3], [3, 4]), ([3], [3]), ([6, 3], [3, 6]), ([5, 7, 3], [3, 5, 7]), ([3, 8], [3, 8]), ([9, 3], [9]), ([10], [10]), ([11, 10], [10, 11]), ([10], [10]), ([13, 10], [10, 13]), ([12, 14, 10], [10, 12, 14]), ([10, 15], [10, 15]), ([16, 10], [16]), ([17], [17]), ([18, 17], [17, 18]), ([17], [17]), ([20, 17], [17, 20]), ([19, 21, 17], [17, 19, 21]), ([17, 22], [17, 22]), ([23, 17], [23]), ([24], [24]), ([25, 24], [24, 25]), ([26, 24, 24], [24, 26]), ([24], [24]), ([28, 24], [24, 28]), ([29, 27, 24], [24, 29]), ([27, 30, 24], [24, 27, 30]), ([24, 31], [24, 31]), ([32, 30, 0, 1, 2, 3, 4, 5, 6, 7, 8, 9, 10, 11, 12, 13, 14, 15, 16, 17, 18, 19, 20, 21, 22, 23, 24, 25, 26, 27, 28, 29, 30, 31, 32], [32])])
def laws_FnOutPeer.B12 : List Nat := [0, 0, 3, 7, 15, 31, 15, 79, 255, 511, 1023, 2047, 4095, 2047, 10239, 32767, 65535, 131071, 262143, 524287, 262143, 1310719, 4194303, 8388607, 16777215, 33554431, 67108863, 134217727, 33554431, 301989887, 1073741823, 2147483647, 4294967295, 8589934591]
theorem laws_FnOutPeer.tab12 : rtab .any (opsOf Try.f10 12) = laws_FnOutPeer.T12 := by kernel_rfl
theorem laws_FnOutPeer.bits12 : waitsOk laws_FnOutPeer.T12.2 laws_FnOutPeer.B12 = true := by kernel_rfl
theorem field53 (a b c d : Value) (w : World) : (Instr.field 53 (.agg #[a, b, c, d]) 0).run Try.prog w = .ok a w := by
  kernel_rfl
set_option maxHeartbeats 8000000 in
set_option maxRecDepth 100000 in
theorem laws_FnOutPeer.calls (k : Nat) (A0 : Option Addr) (c0 : Nat) (l0 : List Int) (A1 : Option Addr) (c1 : Nat) (l1 : List Int) (r : Bool) (w : World) (hr0 : Kd.C (Kd.int .u8) w A0 l0.length l0) (hc0 : l0.length ≤ c0) (hr1 : Kd.C (Kd.int .u8) w A1 l1.length l1) (hc1 : l1.length ≤ c1) (h : laws_FnOutPeer.f k l0 l1 = some r) (hr_ : r = true := by rfl) :
  Calls Try.prog 10 #[.slice A0 l0.length c0, .slice A1 l1.length c1] w fun e w' => e = .returned (.bool r) ∧ Below w.heap.size w w' := by
 have hu53 := Try.underlying53
 have HR0 := qM hr0
 have HC0 := qM hc0
 clear hr0 hc0
 have HR1 := qM hr1
 have HC1 := qM hc1
 clear hr1 hc1
 have HB := qM (Below.refl w.heap.size w)
 have H : (if (l0.length : Int) > 1048576 then (laws_FnOutPeer.j0 k l0 l1 true) else (laws_FnOutPeer.j0 k l0 l1 (decide ((l1.length : Int) > 1048576)))) = some r := h
 clear h
 have HC3 := qM H
 clear H
 go_enter Try.func10, Try.ntmps10
 go_upto_region 1 with (fail)
 go_cut [19] (fun v19 wc => ∃ (kq : Nat) (x19_2 : Bool), v19 = .bool x19_2 ∧ Aside0 (laws_FnOutPeer.j0 kq l0 l1 x19_2 = some r) ∧ Aside0 (kq ≤ k) ∧ Aside0 (Below w.heap.size w wc))
 case first =>
  have H := HC3.out
  clear HC3
  by_cases c4 : (l0.length : Int) > 1048576
  ·rw [if_pos c4] at H
   have c4b0 : decide (1048576 < (l0.length : Int)) = true := decide_eq_true c4
   have c4b1 : decide (1048576 < l0.length) = true := decide_eq_true (by omega)
   clear c4
   (first | rw [c4b0] | (simp only [i64_w, i32_w]; rw [c4b0]) | skip)
   have H' := qM H
   clear H
   go_wp2
   go_meet
   case rel => exact ⟨_, (true), (by first | rfl | (simp; done) | (simp [*]; done)), H', ⟨by first | omega | exact Nat.le_refl _⟩, ⟨by repeat (first | (with_reducible first | exact HB.out | apply yA | apply yN | apply yD) | exact HB.out)⟩⟩
  ·rw [if_neg c4] at H
   have c4b0 : decide (1048576 < (l0.length : Int)) = false := decide_eq_false c4
   have c4b1 : decide (1048576 < l0.length) = false := decide_eq_false (by omega)
   clear c4
   (first | rw [c4b0] | (simp only [i64_w, i32_w]; rw [c4b0]) | skip)
   have H' := qM H
   clear H
   go_wp2
   go_meet
   case rel => exact ⟨_, (decide ((l1.length : Int) > 1048576)), (by first | rfl | (simp; done) | (simp [*]; done)), H', ⟨by first | omega | exact Nat.le_refl _⟩, ⟨by repeat (first | (with_reducible first | exact HB.out | apply yA | apply yN | apply yD) | exact HB.out)⟩⟩
 case rest =>
  clear HC3
  try clear c1
  try clear p2
  try clear c4
  try clear c4b0
  try clear c4b1
  obtain ⟨kq, x19_2, rfl, HA, HJ2, HB⟩ := hcut
  cases kq with
  | zero => exact absurd HA.out (by simp [laws_FnOutPeer.j0])
  | succ kj2 =>
   have H := HA.out
   clear HA
   simp only [laws_FnOutPeer.j0] at H
   by_cases c5 : x19_2 = true
   ·subst c5
    have H1 : (some true) = some r := by rw [if_pos rfl] at H; exact H
    clear H
    have H := H1
    clear H1
    obtain rfl := Option.some.inj H
    go_wp2
    go_ret
    exact ⟨by first | rfl | (simp [errW_none, errW_some] <;> rfl) | (simp [*, errW_none, errW_some] <;> rfl), by repeat (first | (with_reducible first | exact HB.out | apply yA | apply yN | apply yD) | exact HB.out)⟩
   ·replace c5 := Bool.eq_false_iff.mpr c5
    subst c5
    have H1 : ((spec_DrawOutPeer.f kj2 l0).bind fun bt186 => ((spec_DrawOutPeer.f kj2 l1).bind fun bt192 => ((impl_OutPeer.f bt186.1 bt186.2.1 bt186.2.2.1 bt186.2.2.2.1 bt186.2.2.2.2).bind fun bt198 => ((spec_OutPeer.f kj2 bt186.1 bt186.2.1 bt186.2.2.1 bt186.2.2.2.1 bt186.2.2.2.2).bind fun bt203 => (if (!(bt198.1 == bt203.1) || (!(bt198.2.1 == bt203.2.1) || (!(bt198.2.2.1 == bt203.2.2.1) || (!(bt198.2.2.2 == bt203.2.2.2))))) = true then (some false) else ((spec_OutOk.f bt198.1 bt198.2.1 bt198.2.2.1 bt198.2.2.2).bind fun t207 => (if t207 = true then (if bt192.2.2.2.2 < 0 then (laws_FnOutPeer.j1 kj2 bt186.2.2.2.2 bt192.2.2.2.2 true bt186.1 bt186.2.1 bt186.2.2.1 bt186.2.2.2.1 bt198.1 bt198.2.1 bt198.2.2.1 bt198.2.2.2) else (laws_FnOutPeer.j1 kj2 bt186.2.2.2.2 bt192.2.2.2.2 (decide (bt192.2.2.2.2 > 60000)) bt186.1 bt186.2.1 bt186.2.2.1 bt186.2.2.2.1 bt198.1 bt198.2.1 bt198.2.2.1 bt198.2.2.2)) else (laws_FnOutPeer.j1 kj2 bt186.2.2.2.2 bt192.2.2.2.2 true bt186.1 bt186.2.1 bt186.2.2.1 bt186.2.2.2.1 bt198.1 bt198.2.1 bt198.2.2.1 bt198.2.2.2)))))))) = some r := by rw [if_neg (show ¬ (false = true) by decide)] at H; exact H
    clear H
    have H := H1
    clear H1
    replace H := Option.bind_eq_some_iff.mp H
    obtain ⟨⟨t186, t187, t188, t189, t190⟩, A60, H⟩ := H
    replace H : ((spec_DrawOutPeer.f kj2 l1).bind fun bt192 => ((impl_OutPeer.f t186 t187 t188 t189 t190).bind fun bt198 => ((spec_OutPeer.f kj2 t186 t187 t188 t189 t190).bind fun bt203 => (if (!(bt198.1 == bt203.1) || (!(bt198.2.1 == bt203.2.1) || (!(bt198.2.2.1 == bt203.2.2.1) || (!(bt198.2.2.2 == bt203.2.2.2))))) = true then (some false) else ((spec_OutOk.f bt198.1 bt198.2.1 bt198.2.2.1 bt198.2.2.2).bind fun t207 => (if t207 = true then (if bt192.2.2.2.2 < 0 then (laws_FnOutPeer.j1 kj2 t190 bt192.2.2.2.2 true t186 t187 t188 t189 bt198.1 bt198.2.1 bt198.2.2.1 bt198.2.2.2) else (laws_FnOutPeer.j1 kj2 t190 bt192.2.2.2.2 (decide (bt192.2.2.2.2 > 60000)) t186 t187 t188 t189 bt198.1 bt198.2.1 bt198.2.2.1 bt198.2.2.2)) else (laws_FnOutPeer.j1 kj2 t190 bt192.2.2.2.2 true t186 t187 t188 t189 bt198.1 bt198.2.1 bt198.2.2.1 bt198.2.2.2))))))) = some r := H
    have A6 := qM A60
    clear A60
    replace H := Option.bind_eq_some_iff.mp H
    obtain ⟨⟨t192, t193, t194, t195, t196⟩, A70, H⟩ := H
    replace H : ((impl_OutPeer.f t186 t187 t188 t189 t190).bind fun bt198 => ((spec_OutPeer.f kj2 t186 t187 t188 t189 t190).bind fun bt203 => (if (!(bt198.1 == bt203.1) || (!(bt198.2.1 == bt203.2.1) || (!(bt198.2.2.1 == bt203.2.2.1) || (!(bt198.2.2.2 == bt203.2.2.2))))) = true then (some false) else ((spec_OutOk.f bt198.1 bt198.2.1 bt198.2.2.1 bt198.2.2.2).bind fun t207 => (if t207 = true then (if t196 < 0 then (laws_FnOutPeer.j1 kj2 t190 t196 true t186 t187 t188 t189 bt198.1 bt198.2.1 bt198.2.2.1 bt198.2.2.2) else (laws_FnOutPeer.j1 kj2 t190 t196 (decide (t196 > 60000)) t186 t187 t188 t189 bt198.1 bt198.2.1 bt198.2.2.1 bt198.2.2.2)) else (laws_FnOutPeer.j1 kj2 t190 t196 true t186 t187 t188 t189 bt198.1 bt198.2.1 bt198.2.2.1 bt198.2.2.2)))))) = some r := H
    have A7 := qM A70
    clear A70
    replace H := Option.bind_eq_some_iff.mp H
    obtain ⟨⟨t198, t199, t200, t201⟩, A80, H⟩ := H
    replace H : ((spec_OutPeer.f kj2 t186 t187 t188 t189 t190).bind fun bt203 => (if (!(t198 == bt203.1) || (!(t199 == bt203.2.1) || (!(t200 == bt203.2.2.1) || (!(t201 == bt203.2.2.2))))) = true then (some false) else ((spec_OutOk.f t198 t199 t200 t201).bind fun t207 => (if t207 = true then (if t196 < 0 then (laws_FnOutPeer.j1 kj2 t190 t196 true t186 t187 t188 t189 t198 t199 t200 t201) else (laws_FnOutPeer.j1 kj2 t190 t196 (decide (t196 > 60000)) t186 t187 t188 t189 t198 t199 t200 t201)) else (laws_FnOutPeer.j1 kj2 t190 t196 true t186 t187 t188 t189 t198 t199 t200 t201))))) = some r := H
    have A8 := qM A80
    clear A80
    replace H := Option.bind_eq_some_iff.mp H
    obtain ⟨⟨t203, t204, t205, t206⟩, A90, H⟩ := H
    replace H : (if (!(t198 == t203) || (!(t199 == t204) || (!(t200 == t205) || (!(t201 == t206))))) = true then (some false) else ((spec_OutOk.f t198 t199 t200 t201).bind fun t207 => (if t207 = true then (if t196 < 0 then (laws_FnOutPeer.j1 kj2 t190 t196 true t186 t187 t188 t189 t198 t199 t200 t201) else (laws_FnOutPeer.j1 kj2 t190 t196 (decide (t196 > 60000)) t186 t187 t188 t189 t198 t199 t200 t201)) else (laws_FnOutPeer.j1 kj2 t190 t196 true t186 t187 t188 t189 t198 t199 t200 t201)))) = some r := H
    have A9 := qM A90
    clear A90
    by_cases c10 : (!(t198 == t203) || (!(t199 == t204) || (!(t200 == t205) || (!(t201 == t206))))) = true
    ·rw [if_pos c10] at H
     have c10b0 : (!(t198 == t203) || (!(t199 == t204) || (!(t200 == t205) || (!(t201 == t206))))) = true := c10
     clear c10
     exact absurd ((Option.some.inj H).trans hr_) (by decide)
    ·rw [if_neg c10] at H
     have c10b0 : (!(t198 == t203) || (!(t199 == t204) || (!(t200 == t205) || (!(t201 == t206))))) = false := by simpa using c10
     clear c10
     have HC27 := qM H
     clear H
     try go_wp2_with (first | ((with_reducible refine gate_callee (f := 37) rfl ?_); refine goesL_ (some 22) rfl rfl Try.func37 (by kernel_rfl) rfl #[.slice A0 l0.length c0] rfl (by (try simp only [List.map_toArray, List.map_cons, List.map_nil]); first | done | rfl | (simp only [List.length_drop, List.length_take]; rfl)) ?_; (with_reducible refine (spec_DrawOutPeer.calls kj2 _ _ l0 t186 t187 t188 t189 t190 _ ?side1 ?side2 A6.out).mono ?_); (case side1 => repeat (first | exact (Kd.C_below HR0.out HB.out) | (with_reducible refine Kd.C_alloc ?_ _) | (with_reducible refine Kd.C_drewN ?_ _) | (with_reducible refine Kd.C_drew ?_))); (case side2 => exact HC0.out); rintro e w28 ⟨rfl, hb⟩; refine ⟨_, rfl, ?_⟩; have n0_ := qM (below_step (by repeat (first | (with_reducible first | exact HB.out | apply yA | apply yN | apply yD) | exact HB.out)) hb); clear HB; have HB := n0_; clear n0_; (try clear hb); (try clear hb2); (try clear hk); (try clear hi)) | ((with_reducible refine gate_dst (N := 5) rfl ?_); (try (refine gate_guard (by rfl) ?_; dsimp only)); refine box_event ?hg (N := 5) ?hd (cs := #[.int .i64 0, .int .i64 0, .int .i64 0, .int .i64 0]) (t := 53) ?hr ?_; (case hd => rfl); (case hg => rfl); (case hr => first | (go_simp; done) | (go_simp; rfl)); intro gb191 hg w29 hbox hb; have n0_ := qM (below_step (by repeat (first | (with_reducible first | exact HB.out | apply yA | apply yN | apply yD) | exact HB.out)) hb); have n1_ := qM (hbox); have n2_ := qM ((by rw [hg]; exact (below_size (by repeat (first | (with_reducible first | exact HB.out | apply yA | apply yN | apply yD) | exact HB.out))) : w.heap.size ≤ gb191)); have n3_ := qM ((by rw [hg]; exact (below_size (by repeat (first | (with_reducible first | exact HB.out | apply yA | apply yN | apply yD) | exact HB.out))) : w.heap.size ≤ gb191)); clear HB; have HB := n0_; have BK191 := n1_; have GW191 := n2_; have GE191 := n3_; clear n0_ n1_ n2_ n3_; clear hb hbox hg; have hcz30_0 : w29.cell? ⟨gb191, 0, none⟩ = some (.int .i64 0) := (zC BK191.out 0).trans rfl; have hcz30_1 : w29.cell? ⟨gb191, 1, none⟩ = some (.int .i64 0) := (zC BK191.out 1).trans rfl; have hcz30_2 : w29.cell? ⟨gb191, 2, none⟩ = some (.int .i64 0) := (zC BK191.out 2).trans rfl; have hcz30_3 : w29.cell? ⟨gb191, 3, none⟩ = some (.int .i64 0) := (zC BK191.out 3).trans rfl; have hfz30_0 := zF BK191.out 0; have hfz30_1 := zF BK191.out 1; have hfz30_2 := zF BK191.out 2; have hfz30_3 := zF BK191.out 3) | ((with_reducible refine gate_callee (f := 37) rfl ?_); refine goesL_ (some 27) rfl rfl Try.func37 (by kernel_rfl) rfl #[.slice A1 l1.length c1] rfl (by (try simp only [List.map_toArray, List.map_cons, List.map_nil]); first | done | rfl | (simp only [List.length_drop, List.length_take]; rfl)) ?_; (with_reducible refine (spec_DrawOutPeer.calls kj2 _ _ l1 t192 t193 t194 t195 t196 _ ?side1 ?side2 A7.out).mono ?_); (case side1 => exact Kd.C_below HR1.out (by repeat (first | (with_reducible first | exact HB.out | apply yA | apply yN | apply yD | refine yS ?_ GE191.out) | exact HB.out))); (case side2 => exact HC1.out); rintro e w31 ⟨rfl, hb⟩; refine ⟨_, rfl, ?_⟩; have n0_ := qM (blk_below (g := gb191) (o := .cells #[.int .i64 t186, .int .i64 t187, .int .i64 t188, .int .i64 t189] 53 (0, 0)) (by (with_reducible repeat (first | refine zN ?_ _ | refine zD ?_ | refine zA ?_ _)); refine blk_put (cs := #[.int .i64 t186, .int .i64 t187, .int .i64 t188, .int .i64 0]) ?_ 3 _ rfl; (with_reducible repeat (first | refine zN ?_ _ | refine zD ?_ | refine zA ?_ _)); refine blk_put (cs := #[.int .i64 t186, .int .i64 t187, .int .i64 0, .int .i64 0]) ?_ 2 _ rfl; (with_reducible repeat (first | refine zN ?_ _ | refine zD ?_ | refine zA ?_ _)); refine blk_put (cs := #[.int .i64 t186, .int .i64 0, .int .i64 0, .int .i64 0]) ?_ 1 _ rfl; (with_reducible repeat (first | refine zN ?_ _ | refine zD ?_ | refine zA ?_ _)); refine blk_put (cs := #[.int .i64 0, .int .i64 0, .int .i64 0, .int .i64 0]) ?_ 0 _ rfl; (with_reducible repeat (first | refine zN ?_ _ | refine zD ?_ | refine zA ?_ _)); exact BK191.out) hb); have n1_ := qM (below_step (by repeat (first | (with_reducible first | exact HB.out | apply yA | apply yN | apply yD | refine yS ?_ GE191.out) | exact HB.out)) hb); clear BK191; clear HB; have BK191 := n0_; have HB := n1_; clear n0_ n1_; (try clear hb); (try clear hb2); (try clear hk); (try clear hi)) | ((with_reducible refine gate_dst (N := 7) rfl ?_); (try (refine gate_guard (by rfl) ?_; dsimp only)); refine box_event ?hg (N := 7) ?hd (cs := #[.int .i64 0, .int .i64 0, .int .i64 0, .int .i64 0]) (t := 53) ?hr ?_; (case hd => rfl); (case hg => rfl); (case hr => first | (go_simp; done) | (go_simp; rfl)); intro gb197 hg w32 hbox hb; have n0_ := qM (blk_below (g := gb191) (o := .cells #[.int .i64 t186, .int .i64 t187, .int .i64 t188, .int .i64 t189] 53 (0, 0)) (by (with_reducible repeat (first | refine zN ?_ _ | refine zD ?_ | refine zA ?_ _)); exact BK191.out) hb); have n1_ := qM (below_step (by repeat (first | (with_reducible first | exact HB.out | apply yA | apply yN | apply yD | refine yS ?_ GE191.out) | exact HB.out)) hb); have n2_ := qM (hbox); have n3_ := qM ((by rw [hg]; exact (below_size (by repeat (first | (with_reducible first | exact HB.out | apply yA | apply yN | apply yD | refine yS ?_ GE191.out) | exact HB.out))) : w.heap.size ≤ gb197)); have n4_ := qM ((by rw [hg]; exact (below_size (by repeat (first | (with_reducible first | exact HB.out | apply yA | apply yN | apply yD | refine yS ?_ GE191.out) | exact HB.out))) : w.heap.size ≤ gb197)); have n5_ := qM ((by rw [hg]; exact Nat.ne_of_lt (blk_lt (g := gb191) (o := .cells #[.int .i64 t186, .int .i64 t187, .int .i64 t188, .int .i64 t189] 53 (0, 0)) (by (with_reducible repeat (first | refine zN ?_ _ | refine zD ?_ | refine zA ?_ _)); exact BK191.out)) : gb191 ≠ gb197)); have n6_ := qM ((by rw [hg]; exact Nat.ne_of_gt (blk_lt (g := gb191) (o := .cells #[.int .i64 t186, .int .i64 t187, .int .i64 t188, .int .i64 t189] 53 (0, 0)) (by (with_reducible repeat (first | refine zN ?_ _ | refine zD ?_ | refine zA ?_ _)); exact BK191.out)) : gb197 ≠ gb191)); clear BK191; clear HB; have BK191 := n0_; have HB := n1_; have BK197 := n2_; have GW197 := n3_; have GE197 := n4_; have NB191_197 := n5_; have NB197_191 := n6_; clear n0_ n1_ n2_ n3_ n4_ n5_ n6_; clear hb hbox hg; have hnb33 := NB197_191.out; have hnc33 := NB191_197.out; have hcz34_0 : w32.cell? ⟨gb197, 0, none⟩ = some (.int .i64 0) := (zC BK197.out 0).trans rfl; have hcz34_1 : w32.cell? ⟨gb197, 1, none⟩ = some (.int .i64 0) := (zC BK197.out 1).trans rfl; have hcz34_2 : w32.cell? ⟨gb197, 2, none⟩ = some (.int .i64 0) := (zC BK197.out 2).trans rfl; have hcz34_3 : w32.cell? ⟨gb197, 3, none⟩ = some (.int .i64 0) := (zC BK197.out 3).trans rfl; have hfz34_0 := zF BK197.out 0; have hfz34_1 := zF BK197.out 1; have hfz34_2 := zF BK197.out 2; have hfz34_3 := zF BK197.out 3; have hcz35_0 : w32.cell? ⟨gb191, 0, none⟩ = some (.int .i64 t186) := (zC BK191.out 0).trans rfl; have hcz35_1 : w32.cell? ⟨gb191, 1, none⟩ = some (.int .i64 t187) := (zC BK191.out 1).trans rfl; have hcz35_2 : w32.cell? ⟨gb191, 2, none⟩ = some (.int .i64 t188) := (zC BK191.out 2).trans rfl; have hcz35_3 : w32.cell? ⟨gb191, 3, none⟩ = some (.int .i64 t189) := (zC BK191.out 3).trans rfl; have hfz35_0 := zF BK191.out 0; have hfz35_1 := zF BK191.out 1; have hfz35_2 := zF BK191.out 2; have hfz35_3 := zF BK191.out 3) | ((with_reducible refine gate_callee (f := 38) rfl ?_); refine goesL_ (some 32) rfl rfl Try.func38 (by kernel_rfl) rfl #[.agg #[.int .i64 t186, .int .i64 t187, .int .i64 t188, .int .i64 t189], .int .i64 t190] rfl (by (try simp only [List.map_toArray, List.map_cons, List.map_nil]); first | done | rfl | (simp only [List.length_drop, List.length_take]; rfl)) ?_; (with_reducible refine (impl_OutPeer.calls t186 t187 t188 t189 t190 t198 t199 t200 t201 _ A8.out).mono ?_); rintro e w36 ⟨rfl, hb⟩; refine ⟨_, rfl, ?_⟩; have n0_ := qM (blk_below (g := gb191) (o := .cells #[.int .i64 t186, .int .i64 t187, .int .i64 t188, .int .i64 t189] 53 (0, 0)) (by (with_reducible repeat (first | refine zN ?_ _ | refine zD ?_ | refine zA ?_ _)); refine blk_far ?_ NB191_197.out _; (with_reducible repeat (first | refine zN ?_ _ | refine zD ?_ | refine zA ?_ _)); refine blk_far ?_ NB191_197.out _; (with_reducible repeat (first | refine zN ?_ _ | refine zD ?_ | refine zA ?_ _)); refine blk_far ?_ NB191_197.out _; (with_reducible repeat (first | refine zN ?_ _ | refine zD ?_ | refine zA ?_ _)); refine blk_far ?_ NB191_197.out _; (with_reducible repeat (first | refine zN ?_ _ | refine zD ?_ | refine zA ?_ _)); exact BK191.out) hb); have n1_ := qM (blk_below (g := gb197) (o := .cells #[.int .i64 t192, .int .i64 t193, .int .i64 t194, .int .i64 t195] 53 (0, 0)) (by (with_reducible repeat (first | refine zN ?_ _ | refine zD ?_ | refine zA ?_ _)); refine blk_put (cs := #[.int .i64 t192, .int .i64 t193, .int .i64 t194, .int .i64 0]) ?_ 3 _ rfl; (with_reducible repeat (first | refine zN ?_ _ | refine zD ?_ | refine zA ?_ _)); refine blk_put (cs := #[.int .i64 t192, .int .i64 t193, .int .i64 0, .int .i64 0]) ?_ 2 _ rfl; (with_reducible repeat (first | refine zN ?_ _ | refine zD ?_ | refine zA ?_ _)); refine blk_put (cs := #[.int .i64 t192, .int .i64 0, .int .i64 0, .int .i64 0]) ?_ 1 _ rfl; (with_reducible repeat (first | refine zN ?_ _ | refine zD ?_ | refine zA ?_ _)); refine blk_put (cs := #[.int .i64 0, .int .i64 0, .int .i64 0, .int .i64 0]) ?_ 0 _ rfl; (with_reducible repeat (first | refine zN ?_ _ | refine zD ?_ | refine zA ?_ _)); exact BK197.out) hb); have n2_ := qM (below_step (by repeat (first | (with_reducible first | exact HB.out | apply yA | apply yN | apply yD | refine yS ?_ GE191.out | refine yS ?_ GE197.out) | exact HB.out)) hb); clear BK191; clear BK197; clear HB; have BK191 := n0_; have BK197 := n1_; have HB := n2_; clear n0_ n1_ n2_; (try clear hb); (try clear hb2); (try clear hk); (try clear hi)) | ((with_reducible refine gate_dst (N := 9) rfl ?_); (try (refine gate_guard (by rfl) ?_; dsimp only)); refine box_event ?hg (N := 9) ?hd (cs := #[.int .i64 0, .int .i64 0, .int .i64 0, .int .i64 0]) (t := 53) ?hr ?_; (case hd => rfl); (case hg => rfl); (case hr => first | (go_simp; done) | (go_simp; rfl)); intro gb202 hg w37 hbox hb; have n0_ := qM (blk_below (g := gb191) (o := .cells #[.int .i64 t186, .int .i64 t187, .int .i64 t188, .int .i64 t189] 53 (0, 0)) (by (with_reducible repeat (first | refine zN ?_ _ | refine zD ?_ | refine zA ?_ _)); exact BK191.out) hb); have n1_ := qM (blk_below (g := gb197) (o := .cells #[.int .i64 t192, .int .i64 t193, .int .i64 t194, .int .i64 t195] 53 (0, 0)) (by (with_reducible repeat (first | refine zN ?_ _ | refine zD ?_ | refine zA ?_ _)); exact BK197.out) hb); have n2_ := qM (below_step (by repeat (first | (with_reducible first | exact HB.out | apply yA | apply yN | apply yD | refine yS ?_ GE191.out | refine yS ?_ GE197.out) | exact HB.out)) hb); have n3_ := qM (hbox); have n4_ := qM ((by rw [hg]; exact (below_size (by repeat (first | (with_reducible first | exact HB.out | apply yA | apply yN | apply yD | refine yS ?_ GE191.out | refine yS ?_ GE197.out) | exact HB.out))) : w.heap.size ≤ gb202)); have n5_ := qM ((by rw [hg]; exact (below_size (by repeat (first | (with_reducible first | exact HB.out | apply yA | apply yN | apply yD | refine yS ?_ GE191.out | refine yS ?_ GE197.out) | exact HB.out))) : w.heap.size ≤ gb202)); have n6_ := qM ((by rw [hg]; exact Nat.ne_of_lt (blk_lt (g := gb191) (o := .cells #[.int .i64 t186, .int .i64 t187, .int .i64 t188, .int .i64 t189] 53 (0, 0)) (by (with_reducible repeat (first | refine zN ?_ _ | refine zD ?_ | refine zA ?_ _)); exact BK191.out)) : gb191 ≠ gb202)); have n7_ := qM ((by rw [hg]; exact Nat.ne_of_gt (blk_lt (g := gb191) (o := .cells #[.int .i64 t186, .int .i64 t187, .int .i64 t188, .int .i64 t189] 53 (0, 0)) (by (with_reducible repeat (first | refine zN ?_ _ | refine zD ?_ | refine zA ?_ _)); exact BK191.out)) : gb202 ≠ gb191)); have n8_ := qM ((by rw [hg]; exact Nat.ne_of_lt (blk_lt (g := gb197) (o := .cells #[.int .i64 t192, .int .i64 t193, .int .i64 t194, .int .i64 t195] 53 (0, 0)) (by (with_reducible repeat (first | refine zN ?_ _ | refine zD ?_ | refine zA ?_ _)); exact BK197.out)) : gb197 ≠ gb202)); have n9_ := qM ((by rw [hg]; exact Nat.ne_of_gt (blk_lt (g := gb197) (o := .cells #[.int .i64 t192, .int .i64 t193, .int .i64 t194, .int .i64 t195] 53 (0, 0)) (by (with_reducible repeat (first | refine zN ?_ _ | refine zD ?_ | refine zA ?_ _)); exact BK197.out)) : gb202 ≠ gb197)); clear BK191; clear BK197; clear HB; have BK191 := n0_; have BK197 := n1_; have HB := n2_; have BK202 := n3_; have GW202 := n4_; have GE202 := n5_; have NB191_202 := n6_; have NB202_191 := n7_; have NB197_202 := n8_; have NB202_197 := n9_; clear n0_ n1_ n2_ n3_ n4_ n5_ n6_ n7_ n8_ n9_; clear hb hbox hg; have hnb38 := NB202_191.out; have hnc38 := NB191_202.out; have hnb39 := NB202_197.out; have hnc39 := NB197_202.out; have hcz40_0 : w37.cell? ⟨gb202, 0, none⟩ = some (.int .i64 0) := (zC BK202.out 0).trans rfl; have hcz40_1 : w37.cell? ⟨gb202, 1, none⟩ = some (.int .i64 0) := (zC BK202.out 1).trans rfl; have hcz40_2 : w37.cell? ⟨gb202, 2, none⟩ = some (.int .i64 0) := (zC BK202.out 2).trans rfl; have hcz40_3 : w37.cell? ⟨gb202, 3, none⟩ = some (.int .i64 0) := (zC BK202.out 3).trans rfl; have hfz40_0 := zF BK202.out 0; have hfz40_1 := zF BK202.out 1; have hfz40_2 := zF BK202.out 2; have hfz40_3 := zF BK202.out 3))
     have n0_ : Aside0 (((((w37.setCell ⟨gb202, 0, none⟩ (.int .i64 t198)).setCell ⟨gb202, 1, none⟩ (.int .i64 t199)).setCell ⟨gb202, 2, none⟩ (.int .i64 t200)).setCell ⟨gb202, 3, none⟩ (.int .i64 t201)).heap[gb191]? = some (.cells #[.int .i64 t186, .int .i64 t187, .int .i64 t188, .int .i64 t189] 53 (0, 0))) := ⟨by (with_reducible repeat (first | refine zN ?_ _ | refine zD ?_ | refine zA ?_ _)); refine blk_far ?_ NB191_202.out _; (with_reducible repeat (first | refine zN ?_ _ | refine zD ?_ | refine zA ?_ _)); refine blk_far ?_ NB191_202.out _; (with_reducible repeat (first | refine zN ?_ _ | refine zD ?_ | refine zA ?_ _)); refine blk_far ?_ NB191_202.out _; (with_reducible repeat (first | refine zN ?_ _ | refine zD ?_ | refine zA ?_ _)); refine blk_far ?_ NB191_202.out _; (with_reducible repeat (first | refine zN ?_ _ | refine zD ?_ | refine zA ?_ _)); exact BK191.out⟩
     have n1_ : Aside0 (((((w37.setCell ⟨gb202, 0, none⟩ (.int .i64 t198)).setCell ⟨gb202, 1, none⟩ (.int .i64 t199)).setCell ⟨gb202, 2, none⟩ (.int .i64 t200)).setCell ⟨gb202, 3, none⟩ (.int .i64 t201)).heap[gb197]? = some (.cells #[.int .i64 t192, .int .i64 t193, .int .i64 t194, .int .i64 t195] 53 (0, 0))) := ⟨by (with_reducible repeat (first | refine zN ?_ _ | refine zD ?_ | refine zA ?_ _)); refine blk_far ?_ NB197_202.out _; (with_reducible repeat (first | refine zN ?_ _ | refine zD ?_ | refine zA ?_ _)); refine blk_far ?_ NB197_202.out _; (with_reducible repeat (first | refine zN ?_ _ | refine zD ?_ | refine zA ?_ _)); refine blk_far ?_ NB197_202.out _; (with_reducible repeat (first | refine zN ?_ _ | refine zD ?_ | refine zA ?_ _)); refine blk_far ?_ NB197_202.out _; (with_reducible repeat (first | refine zN ?_ _ | refine zD ?_ | refine zA ?_ _)); exact BK197.out⟩
     have n2_ : Aside0 (((((w37.setCell ⟨gb202, 0, none⟩ (.int .i64 t198)).setCell ⟨gb202, 1, none⟩ (.int .i64 t199)).setCell ⟨gb202, 2, none⟩ (.int .i64 t200)).setCell ⟨gb202, 3, none⟩ (.int .i64 t201)).heap[gb202]? = some (.cells #[.int .i64 t198, .int .i64 t199, .int .i64 t200, .int .i64 t201] 53 (0, 0))) := ⟨by (with_reducible repeat (first | refine zN ?_ _ | refine zD ?_ | refine zA ?_ _)); refine blk_put (cs := #[.int .i64 t198, .int .i64 t199, .int .i64 t200, .int .i64 0]) ?_ 3 _ rfl; (with_reducible repeat (first | refine zN ?_ _ | refine zD ?_ | refine zA ?_ _)); refine blk_put (cs := #[.int .i64 t198, .int .i64 t199, .int .i64 0, .int .i64 0]) ?_ 2 _ rfl; (with_reducible repeat (first | refine zN ?_ _ | refine zD ?_ | refine zA ?_ _)); refine blk_put (cs := #[.int .i64 t198, .int .i64 0, .int .i64 0, .int .i64 0]) ?_ 1 _ rfl; (with_reducible repeat (first | refine zN ?_ _ | refine zD ?_ | refine zA ?_ _)); refine blk_put (cs := #[.int .i64 0, .int .i64 0, .int .i64 0, .int .i64 0]) ?_ 0 _ rfl; (with_reducible repeat (first | refine zN ?_ _ | refine zD ?_ | refine zA ?_ _)); exact BK202.out⟩
     have n3_ : Aside0 (Below w.heap.size w ((((w37.setCell ⟨gb202, 0, none⟩ (.int .i64 t198)).setCell ⟨gb202, 1, none⟩ (.int .i64 t199)).setCell ⟨gb202, 2, none⟩ (.int .i64 t200)).setCell ⟨gb202, 3, none⟩ (.int .i64 t201))) := ⟨by repeat (first | (with_reducible first | exact HB.out | apply yA | apply yN | apply yD | refine yS ?_ GE191.out | refine yS ?_ GE197.out | refine yS ?_ GE202.out) | exact HB.out)⟩
     (try clear BK191)
     (try clear BK197)
     (try clear BK202)
     (try clear HB)
     generalize ((((w37.setCell ⟨gb202, 0, none⟩ (.int .i64 t198)).setCell ⟨gb202, 1, none⟩ (.int .i64 t199)).setCell ⟨gb202, 2, none⟩ (.int .i64 t200)).setCell ⟨gb202, 3, none⟩ (.int .i64 t201)) = w41 at n0_ n1_ n2_ n3_ ⊢
     have BK191 := n0_
     have BK197 := n1_
     have BK202 := n2_
     have HB := n3_
     clear n0_ n1_ n2_ n3_
     have n0_ := qM (zD BK191.out)
     have n1_ := qM (zD BK197.out)
     have n2_ := qM (zD BK202.out)
     have n3_ := qM (yD HB.out)
     clear BK191
     clear BK197
     clear BK202
     clear HB
     have BK191 := n0_
     have BK197 := n1_
     have BK202 := n2_
     have HB := n3_
     clear n0_ n1_ n2_ n3_
     refine start_ (n := 5) (S := fun w' => w'.cell? ⟨gb202, 0, none⟩ = some (.int .i64 t198) ∧ w'.cell? ⟨gb202, 1, none⟩ = some (.int .i64 t199) ∧ w'.cell? ⟨gb202, 2, none⟩ = some (.int .i64 t200) ∧ w'.cell? ⟨gb202, 3, none⟩ = some (.int .i64 t201) ∧ w'.cell? ⟨gb191, 0, none⟩ = some (.int .i64 t186) ∧ w'.cell? ⟨gb191, 1, none⟩ = some (.int .i64 t187) ∧ w'.cell? ⟨gb191, 2, none⟩ = some (.int .i64 t188) ∧ w'.cell? ⟨gb191, 3, none⟩ = some (.int .i64 t189)) (ds := []) #[false, false, false, false, false] (by kernel_rfl) rfl rfl ⟨(zC BK202.out 0).trans rfl, (zC BK202.out 1).trans rfl, (zC BK202.out 2).trans rfl, (zC BK202.out 3).trans rfl, (zC BK191.out 0).trans rfl, (zC BK191.out 1).trans rfl, (zC BK191.out 2).trans rfl, (zC BK191.out 3).trans rfl⟩ (fun hHeld => ?_)
     generalize w41.drew = w42 at BK191 BK197 BK202 HB hHeld ⊢
     refine pure_ (i := 2) (N := some 35) (v := ?_) (a' := ?_) #[false, false, true, false, false] rfl rfl (by kernel_rfl) (fun _ _ _ h => h) (Or.inl ⟨by rfl, ?_⟩) ?_ ?_
     rotate_left
     ·intro w'
      go_simp
      with_reducible rfl
     rotate_left
     ·simp only [Act.put, List.setIfInBounds_toArray, List.set_cons_zero, List.set_cons_succ, i64_w, i32_w]
      rfl
     refine take_ (i := 0) (N := some 33) (v := ?_) (a' := ?_) #[true, false, true, false, false] rfl rfl (by kernel_rfl) (fun _ _ _ h => h) (Or.inl ⟨by rfl, ?_⟩) hHeld ?_ ?_
     rotate_left
     ·rintro w' ⟨s0, s1, s2, s3, s4, s5, s6, s7⟩
      go_simp
      with_reducible rfl
     rotate_left
     ·simp only [Act.put, List.setIfInBounds_toArray, List.set_cons_zero, List.set_cons_succ, i64_w, i32_w]
      rfl
     refine take_ (i := 1) (N := some 34) (v := ?_) (a' := ?_) #[true, true, true, false, false] rfl rfl (by kernel_rfl) (fun _ _ _ h => h) (Or.inl ⟨by rfl, ?_⟩) hHeld ?_ ?_
     rotate_left
     ·rintro w' ⟨s0, s1, s2, s3, s4, s5, s6, s7⟩
      go_simp
      with_reducible rfl
     rotate_left
     ·simp only [Act.put, List.setIfInBounds_toArray, List.set_cons_zero, List.set_cons_succ, i64_w, i32_w]
      rfl
     refine one_ (i := 3) (N := some 36) #[true, true, true, true, false] rfl rfl (by kernel_rfl) (by decide) (fun K hK => ?_)
     refine goes_ Try.func39 (by kernel_rfl) rfl #[.agg #[.int .i64 t186, .int .i64 t187, .int .i64 t188, .int .i64 t189], .int .i64 t190] (by rfl) rfl rfl (by (try simp only [List.map_toArray, List.map_cons, List.map_nil]); first | done | rfl | (simp only [List.length_drop, List.length_take]; rfl)) ?_
     with_reducible refine (spec_OutPeer.calls kj2 t186 t187 t188 t189 t190 t203 t204 t205 t206 _ A9.out).mono ?_
     rintro e w43 ⟨rfl, hb⟩
     refine ⟨_, rfl, ?_⟩
     have n0_ := qM (blk_below (g := gb191) (o := .cells #[.int .i64 t186, .int .i64 t187, .int .i64 t188, .int .i64 t189] 53 (0, 0)) (by (with_reducible repeat (first | refine zN ?_ _ | refine zD ?_ | refine zA ?_ _)); exact BK191.out) hb)
     have n1_ := qM (blk_below (g := gb197) (o := .cells #[.int .i64 t192, .int .i64 t193, .int .i64 t194, .int .i64 t195] 53 (0, 0)) (by (with_reducible repeat (first | refine zN ?_ _ | refine zD ?_ | refine zA ?_ _)); exact BK197.out) hb)
     have n2_ := qM (blk_below (g := gb202) (o := .cells #[.int .i64 t198, .int .i64 t199, .int .i64 t200, .int .i64 t201] 53 (0, 0)) (by (with_reducible repeat (first | refine zN ?_ _ | refine zD ?_ | refine zA ?_ _)); exact BK202.out) hb)
     have n3_ := qM (below_step (by repeat (first | (with_reducible first | exact HB.out | apply yA | apply yN | apply yD | refine yS ?_ GE191.out | refine yS ?_ GE197.out | refine yS ?_ GE202.out) | exact HB.out)) hb)
     clear BK191
     clear BK197
     clear BK202
     clear HB
     have BK191 := n0_
     have BK197 := n1_
     have BK202 := n2_
     have HB := n3_
     clear n0_ n1_ n2_ n3_
     (try clear hb)
     (try clear hb2)
     (try clear hk)
     (try clear hi)
     refine hK.out _ _ ⟨(zC BK202.out 0).trans rfl, (zC BK202.out 1).trans rfl, (zC BK202.out 2).trans rfl, (zC BK202.out 3).trans rfl, (zC BK191.out 0).trans rfl, (zC BK191.out 1).trans rfl, (zC BK191.out 2).trans rfl, (zC BK191.out 3).trans rfl⟩ (fun hHeld => ?_)
     clear hK K
     refine norm_ (a' := ?_) ?_ ?_
     rotate_left
     ·show Act.put _ (some 36) _ = _
      simp only [Act.put, List.setIfInBounds_toArray, List.set_cons_zero, List.set_cons_succ, i64_w, i32_w]
      rfl
     refine pure_ (i := 4) (N := some 37) (v := ?_) (a' := ?_) #[true, true, true, true, true] rfl rfl (by kernel_rfl) (fun _ _ _ h => h) (Or.inl ⟨by rfl, ?_⟩) ?_ ?_
     rotate_left
     ·intro w'
      go_simp
      with_reducible rfl
     rotate_left
     ·simp only [Act.put, List.setIfInBounds_toArray, List.set_cons_zero, List.set_cons_succ, i64_w, i32_w]
      rfl
     refine done_ (by kernel_rfl) ?_
     go_upto_region 8 with (fail)
     go_cut [48] (fun v48 wc => ∃ (kq : Nat) (x48_26 : Bool), v48 = .bool x48_26 ∧ Aside0 (laws_FnOutPeer.j1 kq t190 t196 x48_26 t186 t187 t188 t189 t198 t199 t200 t201 = some r) ∧ Aside0 (kq ≤ kj2) ∧ Aside0 (wc.heap[gb191]? = some (.cells #[.int .i64 t186, .int .i64 t187, .int .i64 t188, .int .i64 t189] 53 (0, 0))) ∧ Aside0 (wc.heap[gb197]? = some (.cells #[.int .i64 t192, .int .i64 t193, .int .i64 t194, .int .i64 t195] 53 (0, 0))) ∧ Aside0 (wc.heap[gb202]? = some (.cells #[.int .i64 t198, .int .i64 t199, .int .i64 t200, .int .i64 t201] 53 (0, 0))) ∧ Aside0 (Below w.heap.size w wc))
     case first =>
      have H := HC27.out
      clear HC27
      replace H := Option.bind_eq_some_iff.mp H
      obtain ⟨t207, A440, H⟩ := H
      replace H : (if t207 = true then (if t196 < 0 then (laws_FnOutPeer.j1 kj2 t190 t196 true t186 t187 t188 t189 t198 t199 t200 t201) else (laws_FnOutPeer.j1 kj2 t190 t196 (decide (t196 > 60000)) t186 t187 t188 t189 t198 t199 t200 t201)) else (laws_FnOutPeer.j1 kj2 t190 t196 true t186 t187 t188 t189 t198 t199 t200 t201)) = some r := H
      have A44 := qM A440
      clear A440
      by_cases c45 : t207 = true
      ·subst c45
       have H1 : (if t196 < 0 then (laws_FnOutPeer.j1 kj2 t190 t196 true t186 t187 t188 t189 t198 t199 t200 t201) else (laws_FnOutPeer.j1 kj2 t190 t196 (decide (t196 > 60000)) t186 t187 t188 t189 t198 t199 t200 t201)) = some r := by rw [if_pos rfl] at H; exact H
       clear H
       have H := H1
       clear H1
       by_cases c46 : t196 < 0
       ·rw [if_pos c46] at H
        have c46b0 : decide (t196 < 0) = true := decide_eq_true c46
        clear c46
        (first | rw [c46b0] | (simp only [i64_w, i32_w]; rw [c46b0]) | skip)
        have H' := qM H
        clear H
        have hnb47 := NB202_191.out
        have hnc47 := NB191_202.out
        have hnb48 := NB202_197.out
        have hnc48 := NB197_202.out
        have hcz49_0 : w43.cell? ⟨gb202, 0, none⟩ = some (.int .i64 t198) := (zC BK202.out 0).trans rfl
        have hcz49_1 : w43.cell? ⟨gb202, 1, none⟩ = some (.int .i64 t199) := (zC BK202.out 1).trans rfl
        have hcz49_2 : w43.cell? ⟨gb202, 2, none⟩ = some (.int .i64 t200) := (zC BK202.out 2).trans rfl
        have hcz49_3 : w43.cell? ⟨gb202, 3, none⟩ = some (.int .i64 t201) := (zC BK202.out 3).trans rfl
        have hfz49_0 := zF BK202.out 0
        have hfz49_1 := zF BK202.out 1
        have hfz49_2 := zF BK202.out 2
        have hfz49_3 := zF BK202.out 3
        go_wp2_with (first | ((with_reducible refine gate_callee (f := 35) rfl ?_); refine goesL_ (some 39) rfl rfl Try.func35 (by kernel_rfl) rfl #[.agg #[.int .i64 t198, .int .i64 t199, .int .i64 t200, .int .i64 t201]] rfl (by (try simp only [List.map_toArray, List.map_cons, List.map_nil]); first | done | rfl | (simp only [List.length_drop, List.length_take]; rfl)) ?_; (with_reducible refine (spec_OutOk.calls t198 t199 t200 t201 true _ A44.out).mono ?_); rintro e w50 ⟨rfl, hb⟩; refine ⟨_, rfl, ?_⟩; have n0_ := qM (blk_below (g := gb191) (o := .cells #[.int .i64 t186, .int .i64 t187, .int .i64 t188, .int .i64 t189] 53 (0, 0)) (by (with_reducible repeat (first | refine zN ?_ _ | refine zD ?_ | refine zA ?_ _)); exact BK191.out) hb); have n1_ := qM (blk_below (g := gb197) (o := .cells #[.int .i64 t192, .int .i64 t193, .int .i64 t194, .int .i64 t195] 53 (0, 0)) (by (with_reducible repeat (first | refine zN ?_ _ | refine zD ?_ | refine zA ?_ _)); exact BK197.out) hb); have n2_ := qM (blk_below (g := gb202) (o := .cells #[.int .i64 t198, .int .i64 t199, .int .i64 t200, .int .i64 t201] 53 (0, 0)) (by (with_reducible repeat (first | refine zN ?_ _ | refine zD ?_ | refine zA ?_ _)); exact BK202.out) hb); have n3_ := qM (below_step (by repeat (first | (with_reducible first | exact HB.out | apply yA | apply yN | apply yD | refine yS ?_ GE191.out | refine yS ?_ GE197.out | refine yS ?_ GE202.out) | exact HB.out)) hb); clear BK191; clear BK197; clear BK202; clear HB; have BK191 := n0_; have BK197 := n1_; have BK202 := n2_; have HB := n3_; clear n0_ n1_ n2_ n3_; (try clear hb); (try clear hb2); (try clear hk); (try clear hi)))
        go_meet
        case rel => exact ⟨_, (true), (by first | rfl | (simp; done) | (simp [*]; done)), H', ⟨by have := HJ2.out; first | omega | exact Nat.le_refl _⟩, ⟨by (with_reducible repeat (first | refine zN ?_ _ | refine zD ?_ | refine zA ?_ _)); exact BK191.out⟩, ⟨by (with_reducible repeat (first | refine zN ?_ _ | refine zD ?_ | refine zA ?_ _)); exact BK197.out⟩, ⟨by (with_reducible repeat (first | refine zN ?_ _ | refine zD ?_ | refine zA ?_ _)); exact BK202.out⟩, ⟨by repeat (first | (with_reducible first | exact HB.out | apply yA | apply yN | apply yD | refine yS ?_ GE191.out | refine yS ?_ GE197.out | refine yS ?_ GE202.out) | exact HB.out)⟩⟩
       ·rw [if_neg c46] at H
        have c46b0 : decide (t196 < 0) = false := decide_eq_false c46
        clear c46
        (first | rw [c46b0] | (simp only [i64_w, i32_w]; rw [c46b0]) | skip)
        have H' := qM H
        clear H
        have hnb51 := NB202_191.out
        have hnc51 := NB191_202.out
        have hnb52 := NB202_197.out
        have hnc52 := NB197_202.out
        have hcz53_0 : w43.cell? ⟨gb202, 0, none⟩ = some (.int .i64 t198) := (zC BK202.out 0).trans rfl
        have hcz53_1 : w43.cell? ⟨gb202, 1, none⟩ = some (.int .i64 t199) := (zC BK202.out 1).trans rfl
        have hcz53_2 : w43.cell? ⟨gb202, 2, none⟩ = some (.int .i64 t200) := (zC BK202.out 2).trans rfl
        have hcz53_3 : w43.cell? ⟨gb202, 3, none⟩ = some (.int .i64 t201) := (zC BK202.out 3).trans rfl
        have hfz53_0 := zF BK202.out 0
        have hfz53_1 := zF BK202.out 1
        have hfz53_2 := zF BK202.out 2
        have hfz53_3 := zF BK202.out 3
        go_wp2_with (first | ((with_reducible refine gate_callee (f := 35) rfl ?_); refine goesL_ (some 39) rfl rfl Try.func35 (by kernel_rfl) rfl #[.agg #[.int .i64 t198, .int .i64 t199, .int .i64 t200, .int .i64 t201]] rfl (by (try simp only [List.map_toArray, List.map_cons, List.map_nil]); first | done | rfl | (simp only [List.length_drop, List.length_take]; rfl)) ?_; (with_reducible refine (spec_OutOk.calls t198 t199 t200 t201 true _ A44.out).mono ?_); rintro e w54 ⟨rfl, hb⟩; refine ⟨_, rfl, ?_⟩; have n0_ := qM (blk_below (g := gb191) (o := .cells #[.int .i64 t186, .int .i64 t187, .int .i64 t188, .int .i64 t189] 53 (0, 0)) (by (with_reducible repeat (first | refine zN ?_ _ | refine zD ?_ | refine zA ?_ _)); exact BK191.out) hb); have n1_ := qM (blk_below (g := gb197) (o := .cells #[.int .i64 t192, .int .i64 t193, .int .i64 t194, .int .i64 t195] 53 (0, 0)) (by (with_reducible repeat (first | refine zN ?_ _ | refine zD ?_ | refine zA ?_ _)); exact BK197.out) hb); have n2_ := qM (blk_below (g := gb202) (o := .cells #[.int .i64 t198, .int .i64 t199, .int .i64 t200, .int .i64 t201] 53 (0, 0)) (by (with_reducible repeat (first | refine zN ?_ _ | refine zD ?_ | refine zA ?_ _)); exact BK202.out) hb); have n3_ := qM (below_step (by repeat (first | (with_reducible first | exact HB.out | apply yA | apply yN | apply yD | refine yS ?_ GE191.out | refine yS ?_ GE197.out | refine yS ?_ GE202.out) | exact HB.out)) hb); clear BK191; clear BK197; clear BK202; clear HB; have BK191 := n0_; have BK197 := n1_; have BK202 := n2_; have HB := n3_; clear n0_ n1_ n2_ n3_; (try clear hb); (try clear hb2); (try clear hk); (try clear hi)))
        go_meet
        case rel => exact ⟨_, (decide (t196 > 60000)), (by first | rfl | (simp; done) | (simp [*]; done)), H', ⟨by have := HJ2.out; first | omega | exact Nat.le_refl _⟩, ⟨by (with_reducible repeat (first | refine zN ?_ _ | refine zD ?_ | refine zA ?_ _)); exact BK191.out⟩, ⟨by (with_reducible repeat (first | refine zN ?_ _ | refine zD ?_ | refine zA ?_ _)); exact BK197.out⟩, ⟨by (with_reducible repeat (first | refine zN ?_ _ | refine zD ?_ | refine zA ?_ _)); exact BK202.out⟩, ⟨by repeat (first | (with_reducible first | exact HB.out | apply yA | apply yN | apply yD | refine yS ?_ GE191.out | refine yS ?_ GE197.out | refine yS ?_ GE202.out) | exact HB.out)⟩⟩
      ·replace c45 := Bool.eq_false_iff.mpr c45
       subst c45
       have H1 : (laws_FnOutPeer.j1 kj2 t190 t196 true t186 t187 t188 t189 t198 t199 t200 t201) = some r := by rw [if_neg (show ¬ (false = true) by decide)] at H; exact H
       clear H
       have H := H1
       clear H1
       have H' := qM H
       clear H
       have hnb55 := NB202_191.out
       have hnc55 := NB191_202.out
       have hnb56 := NB202_197.out
       have hnc56 := NB197_202.out
       have hcz57_0 : w43.cell? ⟨gb202, 0, none⟩ = some (.int .i64 t198) := (zC BK202.out 0).trans rfl
       have hcz57_1 : w43.cell? ⟨gb202, 1, none⟩ = some (.int .i64 t199) := (zC BK202.out 1).trans rfl
       have hcz57_2 : w43.cell? ⟨gb202, 2, none⟩ = some (.int .i64 t200) := (zC BK202.out 2).trans rfl
       have hcz57_3 : w43.cell? ⟨gb202, 3, none⟩ = some (.int .i64 t201) := (zC BK202.out 3).trans rfl
       have hfz57_0 := zF BK202.out 0
       have hfz57_1 := zF BK202.out 1
       have hfz57_2 := zF BK202.out 2
       have hfz57_3 := zF BK202.out 3
       go_wp2_with (first | ((with_reducible refine gate_callee (f := 35) rfl ?_); refine goesL_ (some 39) rfl rfl Try.func35 (by kernel_rfl) rfl #[.agg #[.int .i64 t198, .int .i64 t199, .int .i64 t200, .int .i64 t201]] rfl (by (try simp only [List.map_toArray, List.map_cons, List.map_nil]); first | done | rfl | (simp only [List.length_drop, List.length_take]; rfl)) ?_; (with_reducible refine (spec_OutOk.calls t198 t199 t200 t201 false _ A44.out).mono ?_); rintro e w58 ⟨rfl, hb⟩; refine ⟨_, rfl, ?_⟩; have n0_ := qM (blk_below (g := gb191) (o := .cells #[.int .i64 t186, .int .i64 t187, .int .i64 t188, .int .i64 t189] 53 (0, 0)) (by (with_reducible repeat (first | refine zN ?_ _ | refine zD ?_ | refine zA ?_ _)); exact BK191.out) hb); have n1_ := qM (blk_below (g := gb197) (o := .cells #[.int .i64 t192, .int .i64 t193, .int .i64 t194, .int .i64 t195] 53 (0, 0)) (by (with_reducible repeat (first | refine zN ?_ _ | refine zD ?_ | refine zA ?_ _)); exact BK197.out) hb); have n2_ := qM (blk_below (g := gb202) (o := .cells #[.int .i64 t198, .int .i64 t199, .int .i64 t200, .int .i64 t201] 53 (0, 0)) (by (with_reducible repeat (first | refine zN ?_ _ | refine zD ?_ | refine zA ?_ _)); exact BK202.out) hb); have n3_ := qM (below_step (by repeat (first | (with_reducible first | exact HB.out | apply yA | apply yN | apply yD | refine yS ?_ GE191.out | refine yS ?_ GE197.out | refine yS ?_ GE202.out) | exact HB.out)) hb); clear BK191; clear BK197; clear BK202; clear HB; have BK191 := n0_; have BK197 := n1_; have BK202 := n2_; have HB := n3_; clear n0_ n1_ n2_ n3_; (try clear hb); (try clear hb2); (try clear hk); (try clear hi)))
       go_meet
       case rel => exact ⟨_, (true), (by first | rfl | (simp; done) | (simp [*]; done)), H', ⟨by have := HJ2.out; first | omega | exact Nat.le_refl _⟩, ⟨by (with_reducible repeat (first | refine zN ?_ _ | refine zD ?_ | refine zA ?_ _)); exact BK191.out⟩, ⟨by (with_reducible repeat (first | refine zN ?_ _ | refine zD ?_ | refine zA ?_ _)); exact BK197.out⟩, ⟨by (with_reducible repeat (first | refine zN ?_ _ | refine zD ?_ | refine zA ?_ _)); exact BK202.out⟩, ⟨by repeat (first | (with_reducible first | exact HB.out | apply yA | apply yN | apply yD | refine yS ?_ GE191.out | refine yS ?_ GE197.out | refine yS ?_ GE202.out) | exact HB.out)⟩⟩
     case rest =>
      clear HC27
      try clear c1
      try clear c2
      try clear p2
      try clear c3
      try clear c4
      try clear c4b0
      try clear c4b1
      try clear c5
      try clear c10
      try clear c10b0
      try clear c16
      try clear c21
      try clear c22
      try clear c33
      try clear c35
      try clear c37
      try clear c38
      try clear c39
      try clear c45
      try clear c46
      try clear c46b0
      try clear c47
      try clear c48
      try clear c51
      try clear c52
      try clear c55
      try clear c56
      try clear hcz13_0
      try clear hcz13_1
      try clear hcz13_2
      try clear hcz13_3
      try clear hcz17_0
      try clear hcz17_1
      try clear hcz17_2
      try clear hcz17_3
      try clear hcz18_0
      try clear hcz18_1
      try clear hcz18_2
      try clear hcz18_3
      try clear hcz23_0
      try clear hcz23_1
      try clear hcz23_2
      try clear hcz23_3
      try clear hcz30_0
      try clear hcz30_1
      try clear hcz30_2
      try clear hcz30_3
      try clear hcz34_0
      try clear hcz34_1
      try clear hcz34_2
      try clear hcz34_3
      try clear hcz35_0
      try clear hcz35_1
      try clear hcz35_2
      try clear hcz35_3
      try clear hcz40_0
      try clear hcz40_1
      try clear hcz40_2
      try clear hcz40_3
      try clear hcz49_0
      try clear hcz49_1
      try clear hcz49_2
      try clear hcz49_3
      try clear hcz53_0
      try clear hcz53_1
      try clear hcz53_2
      try clear hcz53_3
      try clear hcz57_0
      try clear hcz57_1
      try clear hcz57_2
      try clear hcz57_3
      try clear hfz13_0
      try clear hfz13_1
      try clear hfz13_2
      try clear hfz13_3
      try clear hfz17_0
      try clear hfz17_1
      try clear hfz17_2
      try clear hfz17_3
      try clear hfz18_0
      try clear hfz18_1
      try clear hfz18_2
      try clear hfz18_3
      try clear hfz23_0
      try clear hfz23_1
      try clear hfz23_2
      try clear hfz23_3
      try clear hfz30_0
      try clear hfz30_1
      try clear hfz30_2
      try clear hfz30_3
      try clear hfz34_0
      try clear hfz34_1
      try clear hfz34_2
      try clear hfz34_3
      try clear hfz35_0
      try clear hfz35_1
      try clear hfz35_2
      try clear hfz35_3
      try clear hfz40_0
      try clear hfz40_1
      try clear hfz40_2
      try clear hfz40_3
      try clear hfz49_0
      try clear hfz49_1
      try clear hfz49_2
      try clear hfz49_3
      try clear hfz53_0
      try clear hfz53_1
      try clear hfz53_2
      try clear hfz53_3
      try clear hfz57_0
      try clear hfz57_1
      try clear hfz57_2
      try clear hfz57_3
      try clear p2
      obtain ⟨kq, x48_26, rfl, HA, HJ26, BK191, BK197, BK202, HB⟩ := hcut
      cases kq with
      | zero => exact absurd HA.out (by simp [laws_FnOutPeer.j1])
      | succ kj26 =>
       have H := HA.out
       clear HA
       simp only [laws_FnOutPeer.j1] at H
       by_cases c59 : x48_26 = true
       ·subst c59
        have H1 : ((impl_OutOpen.f 1).bind fun bt208 => ((impl_OutOk.f bt208.1 bt208.2.1 bt208.2.2.1 bt208.2.2.2).bind fun t212 => (if t212 = true then ((impl_OutOpen.f 2).bind fun bt213 => (some (bt213.1 == 2))) else (some false)))) = some r := by rw [if_pos rfl] at H; exact H
        clear H
        have H := H1
        clear H1
        replace H := Option.bind_eq_some_iff.mp H
        obtain ⟨⟨t208, t209, t210, t211⟩, A600, H⟩ := H
        replace H : ((impl_OutOk.f t208 t209 t210 t211).bind fun t212 => (if t212 = true then ((impl_OutOpen.f 2).bind fun bt213 => (some (bt213.1 == 2))) else (some false))) = some r := H
        have A60 := qM A600
        clear A600
        replace H := Option.bind_eq_some_iff.mp H
        obtain ⟨t212, A610, H⟩ := H
        replace H : (if t212 = true then ((impl_OutOpen.f 2).bind fun bt213 => (some (bt213.1 == 2))) else (some false)) = some r := H
        have A61 := qM A610
        clear A610
        by_cases c62 : t212 = true
        ·subst c62
         have H1 : ((impl_OutOpen.f 2).bind fun bt213 => (some (bt213.1 == 2))) = some r := by rw [if_pos rfl] at H; exact H
         clear H
         have H := H1
         clear H1
         replace H := Option.bind_eq_some_iff.mp H
         obtain ⟨⟨t213, t214, t215, t216⟩, A630, H⟩ := H
         replace H : (some (t213 == 2)) = some r := H
         have A63 := qM A630
         clear A630
         have hf53 := field53 (.int .i64 t213) (.int .i64 t214) (.int .i64 t215) (.int .i64 t216)
         obtain rfl := Option.some.inj H
         go_wp2_with (first | ((with_reducible refine gate_callee (f := 40) rfl ?_); refine goesL_ (some 49) rfl rfl Try.func40 (by kernel_rfl) rfl #[.int .i64 1] rfl (by (try simp only [List.map_toArray, List.map_cons, List.map_nil]); first | done | rfl | (simp only [List.length_drop, List.length_take]; rfl)) ?_; (with_reducible refine (impl_OutOpen.calls 1 t208 t209 t210 t211 _ A60.out).mono ?_); rintro e w64 ⟨rfl, hb⟩; refine ⟨_, rfl, ?_⟩; have n0_ := qM (blk_below (g := gb191) (o := .cells #[.int .i64 t186, .int .i64 t187, .int .i64 t188, .int .i64 t189] 53 (0, 0)) (by (with_reducible repeat (first | refine zN ?_ _ | refine zD ?_ | refine zA ?_ _)); exact BK191.out) hb); have n1_ := qM (blk_below (g := gb197) (o := .cells #[.int .i64 t192, .int .i64 t193, .int .i64 t194, .int .i64 t195] 53 (0, 0)) (by (with_reducible repeat (first | refine zN ?_ _ | refine zD ?_ | refine zA ?_ _)); exact BK197.out) hb); have n2_ := qM (blk_below (g := gb202) (o := .cells #[.int .i64 t198, .int .i64 t199, .int .i64 t200, .int .i64 t201] 53 (0, 0)) (by (with_reducible repeat (first | refine zN ?_ _ | refine zD ?_ | refine zA ?_ _)); exact BK202.out) hb); have n3_ := qM (below_step (by repeat (first | (with_reducible first | exact HB.out | apply yA | apply yN | apply yD | refine yS ?_ GE191.out | refine yS ?_ GE197.out | refine yS ?_ GE202.out) | exact HB.out)) hb); clear BK191; clear BK197; clear BK202; clear HB; have BK191 := n0_; have BK197 := n1_; have BK202 := n2_; have HB := n3_; clear n0_ n1_ n2_ n3_; (try clear hb); (try clear hb2); (try clear hk); (try clear hi)) | ((with_reducible refine gate_callee (f := 36) rfl ?_); refine goesL_ (some 50) rfl rfl Try.func36 (by kernel_rfl) rfl #[.agg #[.int .i64 t208, .int .i64 t209, .int .i64 t210, .int .i64 t211]] rfl (by (try simp only [List.map_toArray, List.map_cons, List.map_nil]); first | done | rfl | (simp only [List.length_drop, List.length_take]; rfl)) ?_; (with_reducible refine (impl_OutOk.calls t208 t209 t210 t211 true _ A61.out).mono ?_); rintro e w65 ⟨rfl, hb⟩; refine ⟨_, rfl, ?_⟩; have n0_ := qM (blk_below (g := gb191) (o := .cells #[.int .i64 t186, .int .i64 t187, .int .i64 t188, .int .i64 t189] 53 (0, 0)) (by (with_reducible repeat (first | refine zN ?_ _ | refine zD ?_ | refine zA ?_ _)); exact BK191.out) hb); have n1_ := qM (blk_below (g := gb197) (o := .cells #[.int .i64 t192, .int .i64 t193, .int .i64 t194, .int .i64 t195] 53 (0, 0)) (by (with_reducible repeat (first | refine zN ?_ _ | refine zD ?_ | refine zA ?_ _)); exact BK197.out) hb); have n2_ := qM (blk_below (g := gb202) (o := .cells #[.int .i64 t198, .int .i64 t199, .int .i64 t200, .int .i64 t201] 53 (0, 0)) (by (with_reducible repeat (first | refine zN ?_ _ | refine zD ?_ | refine zA ?_ _)); exact BK202.out) hb); have n3_ := qM (below_step (by repeat (first | (with_reducible first | exact HB.out | apply yA | apply yN | apply yD | refine yS ?_ GE191.out | refine yS ?_ GE197.out | refine yS ?_ GE202.out) | exact HB.out)) hb); clear BK191; clear BK197; clear BK202; clear HB; have BK191 := n0_; have BK197 := n1_; have BK202 := n2_; have HB := n3_; clear n0_ n1_ n2_ n3_; (try clear hb); (try clear hb2); (try clear hk); (try clear hi)) | (go_at_call 40; (with_reducible refine (impl_OutOpen.calls 2 t213 t214 t215 t216 _ A63.out).mono ?_); rintro e w66 ⟨rfl, hb⟩; have n0_ := qM (blk_below (g := gb191) (o := .cells #[.int .i64 t186, .int .i64 t187, .int .i64 t188, .int .i64 t189] 53 (0, 0)) (by (with_reducible repeat (first | refine zN ?_ _ | refine zD ?_ | refine zA ?_ _)); exact BK191.out) hb); have n1_ := qM (blk_below (g := gb197) (o := .cells #[.int .i64 t192, .int .i64 t193, .int .i64 t194, .int .i64 t195] 53 (0, 0)) (by (with_reducible repeat (first | refine zN ?_ _ | refine zD ?_ | refine zA ?_ _)); exact BK197.out) hb); have n2_ := qM (blk_below (g := gb202) (o := .cells #[.int .i64 t198, .int .i64 t199, .int .i64 t200, .int .i64 t201] 53 (0, 0)) (by (with_reducible repeat (first | refine zN ?_ _ | refine zD ?_ | refine zA ?_ _)); exact BK202.out) hb); have n3_ := qM (below_step (by repeat (first | (with_reducible first | exact HB.out | apply yA | apply yN | apply yD | refine yS ?_ GE191.out | refine yS ?_ GE197.out | refine yS ?_ GE202.out) | exact HB.out)) hb); clear BK191; clear BK197; clear BK202; clear HB; have BK191 := n0_; have BK197 := n1_; have BK202 := n2_; have HB := n3_; clear n0_ n1_ n2_ n3_; (try clear hb); (try clear hb2); (try clear hk); (try clear hi)))
         go_ret
         exact ⟨by first | rfl | (simp [errW_none, errW_some] <;> rfl) | (simp [*, errW_none, errW_some] <;> rfl), by repeat (first | (with_reducible first | exact HB.out | apply yA | apply yN | apply yD | refine yS ?_ GE191.out | refine yS ?_ GE197.out | refine yS ?_ GE202.out) | exact HB.out)⟩
        ·replace c62 := Bool.eq_false_iff.mpr c62
         subst c62
         have H1 : (some false) = some r := by rw [if_neg (show ¬ (false = true) by decide)] at H; exact H
         clear H
         have H := H1
         clear H1
         exact absurd ((Option.some.inj H).trans hr_) (by decide)
       ·replace c59 := Bool.eq_false_iff.mpr c59
        subst c59
        have H1 : ((impl_OutPeer.f t198 t199 t200 t201 t196).bind fun bt217 => ((impl_OutPeer.f t186 t187 t188 t189 t196).bind fun bt222 => ((impl_OutPeer.f bt222.1 bt222.2.1 bt222.2.2.1 bt222.2.2.2 t190).bind fun bt226 => (if (bt217.1 == bt226.1 && (bt217.2.1 == bt226.2.1 && (bt217.2.2.1 == bt226.2.2.1 && (bt217.2.2.2 == bt226.2.2.2)))) = true then (if bt217.2.1 ≥ t199 then (if bt217.2.2.2 = t189 then (if bt217.2.2.1 = t188 then ((impl_OutOpen.f t186).bind fun bt231 => ((spec_OutOpen.f t186).bind fun bt235 => (some (bt231.1 == bt235.1 && (bt231.2.1 == bt235.2.1 && (bt231.2.2.1 == bt235.2.2.1 && (bt231.2.2.2 == bt235.2.2.2))))))) else (some false)) else (some false)) else (some false)) else (some false))))) = some r := by rw [if_neg (show ¬ (false = true) by decide)] at H; exact H
        clear H
        have H := H1
        clear H1
        replace H := Option.bind_eq_some_iff.mp H
        obtain ⟨⟨t217, t218, t219, t220⟩, A690, H⟩ := H
        replace H : ((impl_OutPeer.f t186 t187 t188 t189 t196).bind fun bt222 => ((impl_OutPeer.f bt222.1 bt222.2.1 bt222.2.2.1 bt222.2.2.2 t190).bind fun bt226 => (if (t217 == bt226.1 && (t218 == bt226.2.1 && (t219 == bt226.2.2.1 && (t220 == bt226.2.2.2)))) = true then (if t218 ≥ t199 then (if t220 = t189 then (if t219 = t188 then ((impl_OutOpen.f t186).bind fun bt231 => ((spec_OutOpen.f t186).bind fun bt235 => (some (bt231.1 == bt235.1 && (bt231.2.1 == bt235.2.1 && (bt231.2.2.1 == bt235.2.2.1 && (bt231.2.2.2 == bt235.2.2.2))))))) else (some false)) else (some false)) else (some false)) else (some false)))) = some r := H
        have A69 := qM A690
        clear A690
        replace H := Option.bind_eq_some_iff.mp H
        obtain ⟨⟨t222, t223, t224, t225⟩, A700, H⟩ := H
        replace H : ((impl_OutPeer.f t222 t223 t224 t225 t190).bind fun bt226 => (if (t217 == bt226.1 && (t218 == bt226.2.1 && (t219 == bt226.2.2.1 && (t220 == bt226.2.2.2)))) = true then (if t218 ≥ t199 then (if t220 = t189 then (if t219 = t188 then ((impl_OutOpen.f t186).bind fun bt231 => ((spec_OutOpen.f t186).bind fun bt235 => (some (bt231.1 == bt235.1 && (bt231.2.1 == bt235.2.1 && (bt231.2.2.1 == bt235.2.2.1 && (bt231.2.2.2 == bt235.2.2.2))))))) else (some false)) else (some false)) else (some false)) else (some false))) = some r := H
        have A70 := qM A700
        clear A700
        replace H := Option.bind_eq_some_iff.mp H
        obtain ⟨⟨t226, t227, t228, t229⟩, A710, H⟩ := H
        replace H : (if (t217 == t226 && (t218 == t227 && (t219 == t228 && (t220 == t229)))) = true then (if t218 ≥ t199 then (if t220 = t189 then (if t219 = t188 then ((impl_OutOpen.f t186).bind fun bt231 => ((spec_OutOpen.f t186).bind fun bt235 => (some (bt231.1 == bt235.1 && (bt231.2.1 == bt235.2.1 && (bt231.2.2.1 == bt235.2.2.1 && (bt231.2.2.2 == bt235.2.2.2))))))) else (some false)) else (some false)) else (some false)) else (some false)) = some r := H
        have A71 := qM A710
        clear A710
        by_cases c72 : (t217 == t226 && (t218 == t227 && (t219 == t228 && (t220 == t229)))) = true
        ·rw [if_pos c72] at H
         have c72b0 : (t217 == t226 && (t218 == t227 && (t219 == t228 && (t220 == t229)))) = true := c72
         (try (have c72b1 : decide (t217 = t226 && (t218 == t227 && (t219 == t228 && (t220 == t229)))) = true := by simpa using c72))
         (try (have c72b2 : (t217 == t226 && (t218 == t227 && (t219 == t228 && (t220 == t229)))) = true := by simpa using c72))
         clear c72
         by_cases c73 : t218 ≥ t199
         ·rw [if_pos c73] at H
          have c73b0 : decide (t199 ≤ t218) = true := decide_eq_true c73
          clear c73
          by_cases c74 : t220 = t189
          ·rw [if_pos c74] at H
           have c74b0 : (t220 == t189) = true := beq_iff_eq.mpr c74
           have c74b1 : (t220 != t189) = false := bne_eq_false_iff_eq.mpr c74
           clear c74
           by_cases c75 : t219 = t188
           ·rw [if_pos c75] at H
            have c75b0 : (t219 == t188) = true := beq_iff_eq.mpr c75
            have c75b1 : (t219 != t188) = false := bne_eq_false_iff_eq.mpr c75
            clear c75
            replace H := Option.bind_eq_some_iff.mp H
            obtain ⟨⟨t231, t232, t233, t234⟩, A760, H⟩ := H
            replace H : ((spec_OutOpen.f t186).bind fun bt235 => (some (t231 == bt235.1 && (t232 == bt235.2.1 && (t233 == bt235.2.2.1 && (t234 == bt235.2.2.2)))))) = some r := H
            have A76 := qM A760
            clear A760
            replace H := Option.bind_eq_some_iff.mp H
            obtain ⟨⟨t235, t236, t237, t238⟩, A770, H⟩ := H
            replace H : (some (t231 == t235 && (t232 == t236 && (t233 == t237 && (t234 == t238))))) = some r := H
            have A77 := qM A770
            clear A770
            obtain rfl := Option.some.inj H
            have hnb78 := NB202_191.out
            have hnc78 := NB191_202.out
            have hnb79 := NB202_197.out
            have hnc79 := NB197_202.out
            have hcz80_0 : wc.cell? ⟨gb202, 0, none⟩ = some (.int .i64 t198) := (zC BK202.out 0).trans rfl
            have hcz80_1 : wc.cell? ⟨gb202, 1, none⟩ = some (.int .i64 t199) := (zC BK202.out 1).trans rfl
            have hcz80_2 : wc.cell? ⟨gb202, 2, none⟩ = some (.int .i64 t200) := (zC BK202.out 2).trans rfl
            have hcz80_3 : wc.cell? ⟨gb202, 3, none⟩ = some (.int .i64 t201) := (zC BK202.out 3).trans rfl
            have hfz80_0 := zF BK202.out 0
            have hfz80_1 := zF BK202.out 1
            have hfz80_2 := zF BK202.out 2
            have hfz80_3 := zF BK202.out 3
            try go_wp2_with (first | ((with_reducible refine gate_callee (f := 38) rfl ?_); refine goesL_ (some 58) rfl rfl Try.func38 (by kernel_rfl) rfl #[.agg #[.int .i64 t198, .int .i64 t199, .int .i64 t200, .int .i64 t201], .int .i64 t196] rfl (by (try simp only [List.map_toArray, List.map_cons, List.map_nil]); first | done | rfl | (simp only [List.length_drop, List.length_take]; rfl)) ?_; (with_reducible refine (impl_OutPeer.calls t198 t199 t200 t201 t196 t217 t218 t219 t220 _ A69.out).mono ?_); rintro e w81 ⟨rfl, hb⟩; refine ⟨_, rfl, ?_⟩; have n0_ := qM (blk_below (g := gb191) (o := .cells #[.int .i64 t186, .int .i64 t187, .int .i64 t188, .int .i64 t189] 53 (0, 0)) (by (with_reducible repeat (first | refine zN ?_ _ | refine zD ?_ | refine zA ?_ _)); exact BK191.out) hb); have n1_ := qM (blk_below (g := gb197) (o := .cells #[.int .i64 t192, .int .i64 t193, .int .i64 t194, .int .i64 t195] 53 (0, 0)) (by (with_reducible repeat (first | refine zN ?_ _ | refine zD ?_ | refine zA ?_ _)); exact BK197.out) hb); have n2_ := qM (blk_below (g := gb202) (o := .cells #[.int .i64 t198, .int .i64 t199, .int .i64 t200, .int .i64 t201] 53 (0, 0)) (by (with_reducible repeat (first | refine zN ?_ _ | refine zD ?_ | refine zA ?_ _)); exact BK202.out) hb); have n3_ := qM (below_step (by repeat (first | (with_reducible first | exact HB.out | apply yA | apply yN | apply yD | refine yS ?_ GE191.out | refine yS ?_ GE197.out | refine yS ?_ GE202.out) | exact HB.out)) hb); clear BK191; clear BK197; clear BK202; clear HB; have BK191 := n0_; have BK197 := n1_; have BK202 := n2_; have HB := n3_; clear n0_ n1_ n2_ n3_; (try clear hb); (try clear hb2); (try clear hk); (try clear hi)) | ((with_reducible refine gate_dst (N := 10) rfl ?_); (try (refine gate_guard (by rfl) ?_; dsimp only)); refine box_event ?hg (N := 10) ?hd (cs := #[.int .i64 0, .int .i64 0, .int .i64 0, .int .i64 0]) (t := 53) ?hr ?_; (case hd => rfl); (case hg => rfl); (case hr => first | (go_simp; done) | (go_simp; rfl)); intro gb221 hg w82 hbox hb; have n0_ := qM (blk_below (g := gb191) (o := .cells #[.int .i64 t186, .int .i64 t187, .int .i64 t188, .int .i64 t189] 53 (0, 0)) (by (with_reducible repeat (first | refine zN ?_ _ | refine zD ?_ | refine zA ?_ _)); exact BK191.out) hb); have n1_ := qM (blk_below (g := gb197) (o := .cells #[.int .i64 t192, .int .i64 t193, .int .i64 t194, .int .i64 t195] 53 (0, 0)) (by (with_reducible repeat (first | refine zN ?_ _ | refine zD ?_ | refine zA ?_ _)); exact BK197.out) hb); have n2_ := qM (blk_below (g := gb202) (o := .cells #[.int .i64 t198, .int .i64 t199, .int .i64 t200, .int .i64 t201] 53 (0, 0)) (by (with_reducible repeat (first | refine zN ?_ _ | refine zD ?_ | refine zA ?_ _)); exact BK202.out) hb); have n3_ := qM (below_step (by repeat (first | (with_reducible first | exact HB.out | apply yA | apply yN | apply yD | refine yS ?_ GE191.out | refine yS ?_ GE197.out | refine yS ?_ GE202.out) | exact HB.out)) hb); have n4_ := qM (hbox); have n5_ := qM ((by rw [hg]; exact (below_size (by repeat (first | (with_reducible first | exact HB.out | apply yA | apply yN | apply yD | refine yS ?_ GE191.out | refine yS ?_ GE197.out | refine yS ?_ GE202.out) | exact HB.out))) : w.heap.size ≤ gb221)); have n6_ := qM ((by rw [hg]; exact (below_size (by repeat (first | (with_reducible first | exact HB.out | apply yA | apply yN | apply yD | refine yS ?_ GE191.out | refine yS ?_ GE197.out | refine yS ?_ GE202.out) | exact HB.out))) : w.heap.size ≤ gb221)); have n7_ := qM ((by rw [hg]; exact Nat.ne_of_lt (blk_lt (g := gb191) (o := .cells #[.int .i64 t186, .int .i64 t187, .int .i64 t188, .int .i64 t189] 53 (0, 0)) (by (with_reducible repeat (first | refine zN ?_ _ | refine zD ?_ | refine zA ?_ _)); exact BK191.out)) : gb191 ≠ gb221)); have n8_ := qM ((by rw [hg]; exact Nat.ne_of_gt (blk_lt (g := gb191) (o := .cells #[.int .i64 t186, .int .i64 t187, .int .i64 t188, .int .i64 t189] 53 (0, 0)) (by (with_reducible repeat (first | refine zN ?_ _ | refine zD ?_ | refine zA ?_ _)); exact BK191.out)) : gb221 ≠ gb191)); have n9_ := qM ((by rw [hg]; exact Nat.ne_of_lt (blk_lt (g := gb197) (o := .cells #[.int .i64 t192, .int .i64 t193, .int .i64 t194, .int .i64 t195] 53 (0, 0)) (by (with_reducible repeat (first | refine zN ?_ _ | refine zD ?_ | refine zA ?_ _)); exact BK197.out)) : gb197 ≠ gb221)); have n10_ := qM ((by rw [hg]; exact Nat.ne_of_gt (blk_lt (g := gb197) (o := .cells #[.int .i64 t192, .int .i64 t193, .int .i64 t194, .int .i64 t195] 53 (0, 0)) (by (with_reducible repeat (first | refine zN ?_ _ | refine zD ?_ | refine zA ?_ _)); exact BK197.out)) : gb221 ≠ gb197)); have n11_ := qM ((by rw [hg]; exact Nat.ne_of_lt (blk_lt (g := gb202) (o := .cells #[.int .i64 t198, .int .i64 t199, .int .i64 t200, .int .i64 t201] 53 (0, 0)) (by (with_reducible repeat (first | refine zN ?_ _ | refine zD ?_ | refine zA ?_ _)); exact BK202.out)) : gb202 ≠ gb221)); have n12_ := qM ((by rw [hg]; exact Nat.ne_of_gt (blk_lt (g := gb202) (o := .cells #[.int .i64 t198, .int .i64 t199, .int .i64 t200, .int .i64 t201] 53 (0, 0)) (by (with_reducible repeat (first | refine zN ?_ _ | refine zD ?_ | refine zA ?_ _)); exact BK202.out)) : gb221 ≠ gb202)); clear BK191; clear BK197; clear BK202; clear HB; have BK191 := n0_; have BK197 := n1_; have BK202 := n2_; have HB := n3_; have BK221 := n4_; have GW221 := n5_; have GE221 := n6_; have NB191_221 := n7_; have NB221_191 := n8_; have NB197_221 := n9_; have NB221_197 := n10_; have NB202_221 := n11_; have NB221_202 := n12_; clear n0_ n1_ n2_ n3_ n4_ n5_ n6_ n7_ n8_ n9_ n10_ n11_ n12_; clear hb hbox hg; have hnb83 := NB221_191.out; have hnc83 := NB191_221.out; have hnb84 := NB221_197.out; have hnc84 := NB197_221.out; have hnb85 := NB221_202.out; have hnc85 := NB202_221.out; have hcz86_0 : w82.cell? ⟨gb221, 0, none⟩ = some (.int .i64 0) := (zC BK221.out 0).trans rfl; have hcz86_1 : w82.cell? ⟨gb221, 1, none⟩ = some (.int .i64 0) := (zC BK221.out 1).trans rfl; have hcz86_2 : w82.cell? ⟨gb221, 2, none⟩ = some (.int .i64 0) := (zC BK221.out 2).trans rfl; have hcz86_3 : w82.cell? ⟨gb221, 3, none⟩ = some (.int .i64 0) := (zC BK221.out 3).trans rfl; have hfz86_0 := zF BK221.out 0; have hfz86_1 := zF BK221.out 1; have hfz86_2 := zF BK221.out 2; have hfz86_3 := zF BK221.out 3; have hnb87 := NB191_197.out; have hnc87 := NB197_191.out; have hcz88_0 : w82.cell? ⟨gb191, 0, none⟩ = some (.int .i64 t186) := (zC BK191.out 0).trans rfl; have hcz88_1 : w82.cell? ⟨gb191, 1, none⟩ = some (.int .i64 t187) := (zC BK191.out 1).trans rfl; have hcz88_2 : w82.cell? ⟨gb191, 2, none⟩ = some (.int .i64 t188) := (zC BK191.out 2).trans rfl; have hcz88_3 : w82.cell? ⟨gb191, 3, none⟩ = some (.int .i64 t189) := (zC BK191.out 3).trans rfl; have hfz88_0 := zF BK191.out 0; have hfz88_1 := zF BK191.out 1; have hfz88_2 := zF BK191.out 2; have hfz88_3 := zF BK191.out 3) | ((with_reducible refine gate_callee (f := 38) rfl ?_); refine goesL_ (some 61) rfl rfl Try.func38 (by kernel_rfl) rfl #[.agg #[.int .i64 t186, .int .i64 t187, .int .i64 t188, .int .i64 t189], .int .i64 t196] rfl (by (try simp only [List.map_toArray, List.map_cons, List.map_nil]); first | done | rfl | (simp only [List.length_drop, List.length_take]; rfl)) ?_; (with_reducible refine (impl_OutPeer.calls t186 t187 t188 t189 t196 t222 t223 t224 t225 _ A70.out).mono ?_); rintro e w89 ⟨rfl, hb⟩; refine ⟨_, rfl, ?_⟩; have n0_ := qM (blk_below (g := gb191) (o := .cells #[.int .i64 t186, .int .i64 t187, .int .i64 t188, .int .i64 t189] 53 (0, 0)) (by (with_reducible repeat (first | refine zN ?_ _ | refine zD ?_ | refine zA ?_ _)); refine blk_far ?_ NB191_221.out _; (with_reducible repeat (first | refine zN ?_ _ | refine zD ?_ | refine zA ?_ _)); refine blk_far ?_ NB191_221.out _; (with_reducible repeat (first | refine zN ?_ _ | refine zD ?_ | refine zA ?_ _)); refine blk_far ?_ NB191_221.out _; (with_reducible repeat (first | refine zN ?_ _ | refine zD ?_ | refine zA ?_ _)); refine blk_far ?_ NB191_221.out _; (with_reducible repeat (first | refine zN ?_ _ | refine zD ?_ | refine zA ?_ _)); exact BK191.out) hb); have n1_ := qM (blk_below (g := gb197) (o := .cells #[.int .i64 t192, .int .i64 t193, .int .i64 t194, .int .i64 t195] 53 (0, 0)) (by (with_reducible repeat (first | refine zN ?_ _ | refine zD ?_ | refine zA ?_ _)); refine blk_far ?_ NB197_221.out _; (with_reducible repeat (first | refine zN ?_ _ | refine zD ?_ | refine zA ?_ _)); refine blk_far ?_ NB197_221.out _; (with_reducible repeat (first | refine zN ?_ _ | refine zD ?_ | refine zA ?_ _)); refine blk_far ?_ NB197_221.out _; (with_reducible repeat (first | refine zN ?_ _ | refine zD ?_ | refine zA ?_ _)); refine blk_far ?_ NB197_221.out _; (with_reducible repeat (first | refine zN ?_ _ | refine zD ?_ | refine zA ?_ _)); exact BK197.out) hb); have n2_ := qM (blk_below (g := gb202) (o := .cells #[.int .i64 t198, .int .i64 t199, .int .i64 t200, .int .i64 t201] 53 (0, 0)) (by (with_reducible repeat (first | refine zN ?_ _ | refine zD ?_ | refine zA ?_ _)); refine blk_far ?_ NB202_221.out _; (with_reducible repeat (first | refine zN ?_ _ | refine zD ?_ | refine zA ?_ _)); refine blk_far ?_ NB202_221.out _; (with_reducible repeat (first | refine zN ?_ _ | refine zD ?_ | refine zA ?_ _)); refine blk_far ?_ NB202_221.out _; (with_reducible repeat (first | refine zN ?_ _ | refine zD ?_ | refine zA ?_ _)); refine blk_far ?_ NB202_221.out _; (with_reducible repeat (first | refine zN ?_ _ | refine zD ?_ | refine zA ?_ _)); exact BK202.out) hb); have n3_ := qM (blk_below (g := gb221) (o := .cells #[.int .i64 t217, .int .i64 t218, .int .i64 t219, .int .i64 t220] 53 (0, 0)) (by (with_reducible repeat (first | refine zN ?_ _ | refine zD ?_ | refine zA ?_ _)); refine blk_put (cs := #[.int .i64 t217, .int .i64 t218, .int .i64 t219, .int .i64 0]) ?_ 3 _ rfl; (with_reducible repeat (first | refine zN ?_ _ | refine zD ?_ | refine zA ?_ _)); refine blk_put (cs := #[.int .i64 t217, .int .i64 t218, .int .i64 0, .int .i64 0]) ?_ 2 _ rfl; (with_reducible repeat (first | refine zN ?_ _ | refine zD ?_ | refine zA ?_ _)); refine blk_put (cs := #[.int .i64 t217, .int .i64 0, .int .i64 0, .int .i64 0]) ?_ 1 _ rfl; (with_reducible repeat (first | refine zN ?_ _ | refine zD ?_ | refine zA ?_ _)); refine blk_put (cs := #[.int .i64 0, .int .i64 0, .int .i64 0, .int .i64 0]) ?_ 0 _ rfl; (with_reducible repeat (first | refine zN ?_ _ | refine zD ?_ | refine zA ?_ _)); exact BK221.out) hb); have n4_ := qM (below_step (by repeat (first | (with_reducible first | exact HB.out | apply yA | apply yN | apply yD | refine yS ?_ GE191.out | refine yS ?_ GE197.out | refine yS ?_ GE202.out | refine yS ?_ GE221.out) | exact HB.out)) hb); clear BK191; clear BK197; clear BK202; clear BK221; clear HB; have BK191 := n0_; have BK197 := n1_; have BK202 := n2_; have BK221 := n3_; have HB := n4_; clear n0_ n1_ n2_ n3_ n4_; (try clear hb); (try clear hb2); (try clear hk); (try clear hi)) | ((with_reducible refine gate_callee (f := 38) rfl ?_); refine goesL_ (some 63) rfl rfl Try.func38 (by kernel_rfl) rfl #[.agg #[.int .i64 t222, .int .i64 t223, .int .i64 t224, .int .i64 t225], .int .i64 t190] rfl (by (try simp only [List.map_toArray, List.map_cons, List.map_nil]); first | done | rfl | (simp only [List.length_drop, List.length_take]; rfl)) ?_; (with_reducible refine (impl_OutPeer.calls t222 t223 t224 t225 t190 t226 t227 t228 t229 _ A71.out).mono ?_); rintro e w90 ⟨rfl, hb⟩; refine ⟨_, rfl, ?_⟩; have n0_ := qM (blk_below (g := gb191) (o := .cells #[.int .i64 t186, .int .i64 t187, .int .i64 t188, .int .i64 t189] 53 (0, 0)) (by (with_reducible repeat (first | refine zN ?_ _ | refine zD ?_ | refine zA ?_ _)); exact BK191.out) hb); have n1_ := qM (blk_below (g := gb197) (o := .cells #[.int .i64 t192, .int .i64 t193, .int .i64 t194, .int .i64 t195] 53 (0, 0)) (by (with_reducible repeat (first | refine zN ?_ _ | refine zD ?_ | refine zA ?_ _)); exact BK197.out) hb); have n2_ := qM (blk_below (g := gb202) (o := .cells #[.int .i64 t198, .int .i64 t199, .int .i64 t200, .int .i64 t201] 53 (0, 0)) (by (with_reducible repeat (first | refine zN ?_ _ | refine zD ?_ | refine zA ?_ _)); exact BK202.out) hb); have n3_ := qM (blk_below (g := gb221) (o := .cells #[.int .i64 t217, .int .i64 t218, .int .i64 t219, .int .i64 t220] 53 (0, 0)) (by (with_reducible repeat (first | refine zN ?_ _ | refine zD ?_ | refine zA ?_ _)); exact BK221.out) hb); have n4_ := qM (below_step (by repeat (first | (with_reducible first | exact HB.out | apply yA | apply yN | apply yD | refine yS ?_ GE191.out | refine yS ?_ GE197.out | refine yS ?_ GE202.out | refine yS ?_ GE221.out) | exact HB.out)) hb); clear BK191; clear BK197; clear BK202; clear BK221; clear HB; have BK191 := n0_; have BK197 := n1_; have BK202 := n2_; have BK221 := n3_; have HB := n4_; clear n0_ n1_ n2_ n3_ n4_; (try clear hb); (try clear hb2); (try clear hk); (try clear hi)) | ((with_reducible refine gate_dst (N := 11) rfl ?_); (try (refine gate_guard (by rfl) ?_; dsimp only)); refine box_event ?hg (N := 11) ?hd (cs := #[.int .i64 0, .int .i64 0, .int .i64 0, .int .i64 0]) (t := 53) ?hr ?_; (case hd => rfl); (case hg => rfl); (case hr => first | (go_simp; done) | (go_simp; rfl)); intro gb230 hg w91 hbox hb; have n0_ := qM (blk_below (g := gb191) (o := .cells #[.int .i64 t186, .int .i64 t187, .int .i64 t188, .int .i64 t189] 53 (0, 0)) (by (with_reducible repeat (first | refine zN ?_ _ | refine zD ?_ | refine zA ?_ _)); exact BK191.out) hb); have n1_ := qM (blk_below (g := gb197) (o := .cells #[.int .i64 t192, .int .i64 t193, .int .i64 t194, .int .i64 t195] 53 (0, 0)) (by (with_reducible repeat (first | refine zN ?_ _ | refine zD ?_ | refine zA ?_ _)); exact BK197.out) hb); have n2_ := qM (blk_below (g := gb202) (o := .cells #[.int .i64 t198, .int .i64 t199, .int .i64 t200, .int .i64 t201] 53 (0, 0)) (by (with_reducible repeat (first | refine zN ?_ _ | refine zD ?_ | refine zA ?_ _)); exact BK202.out) hb); have n3_ := qM (blk_below (g := gb221) (o := .cells #[.int .i64 t217, .int .i64 t218, .int .i64 t219, .int .i64 t220] 53 (0, 0)) (by (with_reducible repeat (first | refine zN ?_ _ | refine zD ?_ | refine zA ?_ _)); exact BK221.out) hb); have n4_ := qM (below_step (by repeat (first | (with_reducible first | exact HB.out | apply yA | apply yN | apply yD | refine yS ?_ GE191.out | refine yS ?_ GE197.out | refine yS ?_ GE202.out | refine yS ?_ GE221.out) | exact HB.out)) hb); have n5_ := qM (hbox); have n6_ := qM ((by rw [hg]; exact (below_size (by repeat (first | (with_reducible first | exact HB.out | apply yA | apply yN | apply yD | refine yS ?_ GE191.out | refine yS ?_ GE197.out | refine yS ?_ GE202.out | refine yS ?_ GE221.out) | exact HB.out))) : w.heap.size ≤ gb230)); have n7_ := qM ((by rw [hg]; exact (below_size (by repeat (first | (with_reducible first | exact HB.out | apply yA | apply yN | apply yD | refine yS ?_ GE191.out | refine yS ?_ GE197.out | refine yS ?_ GE202.out | refine yS ?_ GE221.out) | exact HB.out))) : w.heap.size ≤ gb230)); have n8_ := qM ((by rw [hg]; exact Nat.ne_of_lt (blk_lt (g := gb191) (o := .cells #[.int .i64 t186, .int .i64 t187, .int .i64 t188, .int .i64 t189] 53 (0, 0)) (by (with_reducible repeat (first | refine zN ?_ _ | refine zD ?_ | refine zA ?_ _)); exact BK191.out)) : gb191 ≠ gb230)); have n9_ := qM ((by rw [hg]; exact Nat.ne_of_gt (blk_lt (g := gb191) (o := .cells #[.int .i64 t186, .int .i64 t187, .int .i64 t188, .int .i64 t189] 53 (0, 0)) (by (with_reducible repeat (first | refine zN ?_ _ | refine zD ?_ | refine zA ?_ _)); exact BK191.out)) : gb230 ≠ gb191)); have n10_ := qM ((by rw [hg]; exact Nat.ne_of_lt (blk_lt (g := gb197) (o := .cells #[.int .i64 t192, .int .i64 t193, .int .i64 t194, .int .i64 t195] 53 (0, 0)) (by (with_reducible repeat (first | refine zN ?_ _ | refine zD ?_ | refine zA ?_ _)); exact BK197.out)) : gb197 ≠ gb230)); have n11_ := qM ((by rw [hg]; exact Nat.ne_of_gt (blk_lt (g := gb197) (o := .cells #[.int .i64 t192, .int .i64 t193, .int .i64 t194, .int .i64 t195] 53 (0, 0)) (by (with_reducible repeat (first | refine zN ?_ _ | refine zD ?_ | refine zA ?_ _)); exact BK197.out)) : gb230 ≠ gb197)); have n12_ := qM ((by rw [hg]; exact Nat.ne_of_lt (blk_lt (g := gb202) (o := .cells #[.int .i64 t198, .int .i64 t199, .int .i64 t200, .int .i64 t201] 53 (0, 0)) (by (with_reducible repeat (first | refine zN ?_ _ | refine zD ?_ | refine zA ?_ _)); exact BK202.out)) : gb202 ≠ gb230)); have n13_ := qM ((by rw [hg]; exact Nat.ne_of_gt (blk_lt (g := gb202) (o := .cells #[.int .i64 t198, .int .i64 t199, .int .i64 t200, .int .i64 t201] 53 (0, 0)) (by (with_reducible repeat (first | refine zN ?_ _ | refine zD ?_ | refine zA ?_ _)); exact BK202.out)) : gb230 ≠ gb202)); have n14_ := qM ((by rw [hg]; exact Nat.ne_of_lt (blk_lt (g := gb221) (o := .cells #[.int .i64 t217, .int .i64 t218, .int .i64 t219, .int .i64 t220] 53 (0, 0)) (by (with_reducible repeat (first | refine zN ?_ _ | refine zD ?_ | refine zA ?_ _)); exact BK221.out)) : gb221 ≠ gb230)); have n15_ := qM ((by rw [hg]; exact Nat.ne_of_gt (blk_lt (g := gb221) (o := .cells #[.int .i64 t217, .int .i64 t218, .int .i64 t219, .int .i64 t220] 53 (0, 0)) (by (with_reducible repeat (first | refine zN ?_ _ | refine zD ?_ | refine zA ?_ _)); exact BK221.out)) : gb230 ≠ gb221)); clear BK191; clear BK197; clear BK202; clear BK221; clear HB; have BK191 := n0_; have BK197 := n1_; have BK202 := n2_; have BK221 := n3_; have HB := n4_; have BK230 := n5_; have GW230 := n6_; have GE230 := n7_; have NB191_230 := n8_; have NB230_191 := n9_; have NB197_230 := n10_; have NB230_197 := n11_; have NB202_230 := n12_; have NB230_202 := n13_; have NB221_230 := n14_; have NB230_221 := n15_; clear n0_ n1_ n2_ n3_ n4_ n5_ n6_ n7_ n8_ n9_ n10_ n11_ n12_ n13_ n14_ n15_; clear hb hbox hg; have hnb92 := NB230_191.out; have hnc92 := NB191_230.out; have hnb93 := NB230_197.out; have hnc93 := NB197_230.out; have hnb94 := NB230_202.out; have hnc94 := NB202_230.out; have hnb95 := NB230_221.out; have hnc95 := NB221_230.out; have hcz96_0 : w91.cell? ⟨gb230, 0, none⟩ = some (.int .i64 0) := (zC BK230.out 0).trans rfl; have hcz96_1 : w91.cell? ⟨gb230, 1, none⟩ = some (.int .i64 0) := (zC BK230.out 1).trans rfl; have hcz96_2 : w91.cell? ⟨gb230, 2, none⟩ = some (.int .i64 0) := (zC BK230.out 2).trans rfl; have hcz96_3 : w91.cell? ⟨gb230, 3, none⟩ = some (.int .i64 0) := (zC BK230.out 3).trans rfl; have hfz96_0 := zF BK230.out 0; have hfz96_1 := zF BK230.out 1; have hfz96_2 := zF BK230.out 2; have hfz96_3 := zF BK230.out 3))
            have n0_ : Aside0 (((((w91.setCell ⟨gb230, 0, none⟩ (.int .i64 t226)).setCell ⟨gb230, 1, none⟩ (.int .i64 t227)).setCell ⟨gb230, 2, none⟩ (.int .i64 t228)).setCell ⟨gb230, 3, none⟩ (.int .i64 t229)).heap[gb191]? = some (.cells #[.int .i64 t186, .int .i64 t187, .int .i64 t188, .int .i64 t189] 53 (0, 0))) := ⟨by (with_reducible repeat (first | refine zN ?_ _ | refine zD ?_ | refine zA ?_ _)); refine blk_far ?_ NB191_230.out _; (with_reducible repeat (first | refine zN ?_ _ | refine zD ?_ | refine zA ?_ _)); refine blk_far ?_ NB191_230.out _; (with_reducible repeat (first | refine zN ?_ _ | refine zD ?_ | refine zA ?_ _)); refine blk_far ?_ NB191_230.out _; (with_reducible repeat (first | refine zN ?_ _ | refine zD ?_ | refine zA ?_ _)); refine blk_far ?_ NB191_230.out _; (with_reducible repeat (first | refine zN ?_ _ | refine zD ?_ | refine zA ?_ _)); exact BK191.out⟩
            have n1_ : Aside0 (((((w91.setCell ⟨gb230, 0, none⟩ (.int .i64 t226)).setCell ⟨gb230, 1, none⟩ (.int .i64 t227)).setCell ⟨gb230, 2, none⟩ (.int .i64 t228)).setCell ⟨gb230, 3, none⟩ (.int .i64 t229)).heap[gb197]? = some (.cells #[.int .i64 t192, .int .i64 t193, .int .i64 t194, .int .i64 t195] 53 (0, 0))) := ⟨by (with_reducible repeat (first | refine zN ?_ _ | refine zD ?_ | refine zA ?_ _)); refine blk_far ?_ NB197_230.out _; (with_reducible repeat (first | refine zN ?_ _ | refine zD ?_ | refine zA ?_ _)); refine blk_far ?_ NB197_230.out _; (with_reducible repeat (first | refine zN ?_ _ | refine zD ?_ | refine zA ?_ _)); refine blk_far ?_ NB197_230.out _; (with_reducible repeat (first | refine zN ?_ _ | refine zD ?_ | refine zA ?_ _)); refine blk_far ?_ NB197_230.out _; (with_reducible repeat (first | refine zN ?_ _ | refine zD ?_ | refine zA ?_ _)); exact BK197.out⟩
            have n2_ : Aside0 (((((w91.setCell ⟨gb230, 0, none⟩ (.int .i64 t226)).setCell ⟨gb230, 1, none⟩ (.int .i64 t227)).setCell ⟨gb230, 2, none⟩ (.int .i64 t228)).setCell ⟨gb230, 3, none⟩ (.int .i64 t229)).heap[gb202]? = some (.cells #[.int .i64 t198, .int .i64 t199, .int .i64 t200, .int .i64 t201] 53 (0, 0))) := ⟨by (with_reducible repeat (first | refine zN ?_ _ | refine zD ?_ | refine zA ?_ _)); refine blk_far ?_ NB202_230.out _; (with_reducible repeat (first | refine zN ?_ _ | refine zD ?_ | refine zA ?_ _)); refine blk_far ?_ NB202_230.out _; (with_reducible repeat (first | refine zN ?_ _ | refine zD ?_ | refine zA ?_ _)); refine blk_far ?_ NB202_230.out _; (with_reducible repeat (first | refine zN ?_ _ | refine zD ?_ | refine zA ?_ _)); refine blk_far ?_ NB202_230.out _; (with_reducible repeat (first | refine zN ?_ _ | refine zD ?_ | refine zA ?_ _)); exact BK202.out⟩
            have n3_ : Aside0 (((((w91.setCell ⟨gb230, 0, none⟩ (.int .i64 t226)).setCell ⟨gb230, 1, none⟩ (.int .i64 t227)).setCell ⟨gb230, 2, none⟩ (.int .i64 t228)).setCell ⟨gb230, 3, none⟩ (.int .i64 t229)).heap[gb221]? = some (.cells #[.int .i64 t217, .int .i64 t218, .int .i64 t219, .int .i64 t220] 53 (0, 0))) := ⟨by (with_reducible repeat (first | refine zN ?_ _ | refine zD ?_ | refine zA ?_ _)); refine blk_far ?_ NB221_230.out _; (with_reducible repeat (first | refine zN ?_ _ | refine zD ?_ | refine zA ?_ _)); refine blk_far ?_ NB221_230.out _; (with_reducible repeat (first | refine zN ?_ _ | refine zD ?_ | refine zA ?_ _)); refine blk_far ?_ NB221_230.out _; (with_reducible repeat (first | refine zN ?_ _ | refine zD ?_ | refine zA ?_ _)); refine blk_far ?_ NB221_230.out _; (with_reducible repeat (first | refine zN ?_ _ | refine zD ?_ | refine zA ?_ _)); exact BK221.out⟩
            have n4_ : Aside0 (((((w91.setCell ⟨gb230, 0, none⟩ (.int .i64 t226)).setCell ⟨gb230, 1, none⟩ (.int .i64 t227)).setCell ⟨gb230, 2, none⟩ (.int .i64 t228)).setCell ⟨gb230, 3, none⟩ (.int .i64 t229)).heap[gb230]? = some (.cells #[.int .i64 t226, .int .i64 t227, .int .i64 t228, .int .i64 t229] 53 (0, 0))) := ⟨by (with_reducible repeat (first | refine zN ?_ _ | refine zD ?_ | refine zA ?_ _)); refine blk_put (cs := #[.int .i64 t226, .int .i64 t227, .int .i64 t228, .int .i64 0]) ?_ 3 _ rfl; (with_reducible repeat (first | refine zN ?_ _ | refine zD ?_ | refine zA ?_ _)); refine blk_put (cs := #[.int .i64 t226, .int .i64 t227, .int .i64 0, .int .i64 0]) ?_ 2 _ rfl; (with_reducible repeat (first | refine zN ?_ _ | refine zD ?_ | refine zA ?_ _)); refine blk_put (cs := #[.int .i64 t226, .int .i64 0, .int .i64 0, .int .i64 0]) ?_ 1 _ rfl; (with_reducible repeat (first | refine zN ?_ _ | refine zD ?_ | refine zA ?_ _)); refine blk_put (cs := #[.int .i64 0, .int .i64 0, .int .i64 0, .int .i64 0]) ?_ 0 _ rfl; (with_reducible repeat (first | refine zN ?_ _ | refine zD ?_ | refine zA ?_ _)); exact BK230.out⟩
            have n5_ : Aside0 (Below w.heap.size w ((((w91.setCell ⟨gb230, 0, none⟩ (.int .i64 t226)).setCell ⟨gb230, 1, none⟩ (.int .i64 t227)).setCell ⟨gb230, 2, none⟩ (.int .i64 t228)).setCell ⟨gb230, 3, none⟩ (.int .i64 t229))) := ⟨by repeat (first | (with_reducible first | exact HB.out | apply yA | apply yN | apply yD | refine yS ?_ GE191.out | refine yS ?_ GE197.out | refine yS ?_ GE202.out | refine yS ?_ GE221.out | refine yS ?_ GE230.out) | exact HB.out)⟩
            (try clear BK191)
            (try clear BK197)
            (try clear BK202)
            (try clear BK221)
            (try clear BK230)
            (try clear HB)
            generalize ((((w91.setCell ⟨gb230, 0, none⟩ (.int .i64 t226)).setCell ⟨gb230, 1, none⟩ (.int .i64 t227)).setCell ⟨gb230, 2, none⟩ (.int .i64 t228)).setCell ⟨gb230, 3, none⟩ (.int .i64 t229)) = w97 at n0_ n1_ n2_ n3_ n4_ n5_ ⊢
            have BK191 := n0_
            have BK197 := n1_
            have BK202 := n2_
            have BK221 := n3_
            have BK230 := n4_
            have HB := n5_
            clear n0_ n1_ n2_ n3_ n4_ n5_
            have n0_ := qM (zD BK191.out)
            have n1_ := qM (zD BK197.out)
            have n2_ := qM (zD BK202.out)
            have n3_ := qM (zD BK221.out)
            have n4_ := qM (zD BK230.out)
            have n5_ := qM (yD HB.out)
            clear BK191
            clear BK197
            clear BK202
            clear BK221
            clear BK230
            clear HB
            have BK191 := n0_
            have BK197 := n1_
            have BK202 := n2_
            have BK221 := n3_
            have BK230 := n4_
            have HB := n5_
            clear n0_ n1_ n2_ n3_ n4_ n5_
            refine start_ (n := 34) (S := fun w' => w'.cell? ⟨gb221, 0, none⟩ = some (.int .i64 t217) ∧ w'.cell? ⟨gb221, 1, none⟩ = some (.int .i64 t218) ∧ w'.cell? ⟨gb221, 2, none⟩ = some (.int .i64 t219) ∧ w'.cell? ⟨gb221, 3, none⟩ = some (.int .i64 t220) ∧ w'.cell? ⟨gb230, 0, none⟩ = some (.int .i64 t226) ∧ w'.cell? ⟨gb230, 1, none⟩ = some (.int .i64 t227) ∧ w'.cell? ⟨gb230, 2, none⟩ = some (.int .i64 t228) ∧ w'.cell? ⟨gb230, 3, none⟩ = some (.int .i64 t229) ∧ w'.cell? ⟨gb202, 0, none⟩ = some (.int .i64 t198) ∧ w'.cell? ⟨gb202, 1, none⟩ = some (.int .i64 t199) ∧ w'.cell? ⟨gb202, 2, none⟩ = some (.int .i64 t200) ∧ w'.cell? ⟨gb202, 3, none⟩ = some (.int .i64 t201) ∧ w'.cell? ⟨gb191, 0, none⟩ = some (.int .i64 t186) ∧ w'.cell? ⟨gb191, 1, none⟩ = some (.int .i64 t187) ∧ w'.cell? ⟨gb191, 2, none⟩ = some (.int .i64 t188) ∧ w'.cell? ⟨gb191, 3, none⟩ = some (.int .i64 t189)) (ds := []) #[false, false, false, false, false, false, false, false, false, false, false, false, false, false, false, false, false, false, false, false, false, false, false, false, false, false, false, false, false, false, false, false, false, false] (by kernel_rfl) rfl rfl ⟨(zC BK221.out 0).trans rfl, (zC BK221.out 1).trans rfl, (zC BK221.out 2).trans rfl, (zC BK221.out 3).trans rfl, (zC BK230.out 0).trans rfl, (zC BK230.out 1).trans rfl, (zC BK230.out 2).trans rfl, (zC BK230.out 3).trans rfl, (zC BK202.out 0).trans rfl, (zC BK202.out 1).trans rfl, (zC BK202.out 2).trans rfl, (zC BK202.out 3).trans rfl, (zC BK191.out 0).trans rfl, (zC BK191.out 1).trans rfl, (zC BK191.out 2).trans rfl, (zC BK191.out 3).trans rfl⟩ (fun hHeld => ?_); refine with_tabW laws_FnOutPeer.tab12 laws_FnOutPeer.bits12 (fun HT_ HW_ => ?_)
            generalize w97.drew = w98 at BK191 BK197 BK202 BK221 BK230 HB hHeld ⊢
            refine take_ (i := 0) (N := some 64) (v := ?_) (a' := ?_) #[true, false, false, false, false, false, false, false, false, false, false, false, false, false, false, false, false, false, false, false, false, false, false, false, false, false, false, false, false, false, false, false, false, false] rfl rfl (take_ofW HT_.out HW_.out (by kernel_rfl)) (fun _ _ _ h => h) (Or.inl ⟨by rfl, ?_⟩) hHeld ?_ ?_
            rotate_left
            ·rintro w' ⟨s0, s1, s2, s3, s4, s5, s6, s7, s8, s9, s10, s11, s12, s13, s14, s15⟩
             go_simp
             with_reducible rfl
            rotate_left
            ·simp only [Act.put, List.setIfInBounds_toArray, List.set_cons_zero, List.set_cons_succ, i64_w, i32_w]
             rfl
            refine take_ (i := 1) (N := some 65) (v := ?_) (a' := ?_) #[true, true, false, false, false, false, false, false, false, false, false, false, false, false, false, false, false, false, false, false, false, false, false, false, false, false, false, false, false, false, false, false, false, false] rfl rfl (take_ofW HT_.out HW_.out (by kernel_rfl)) (fun _ _ _ h => h) (Or.inl ⟨by rfl, ?_⟩) hHeld ?_ ?_
            rotate_left
            ·rintro w' ⟨s0, s1, s2, s3, s4, s5, s6, s7, s8, s9, s10, s11, s12, s13, s14, s15⟩
             go_simp
             with_reducible rfl
            rotate_left
            ·simp only [Act.put, List.setIfInBounds_toArray, List.set_cons_zero, List.set_cons_succ, i64_w, i32_w]
             rfl
            refine pure_ (i := 2) (N := some 66) (v := ?_) (a' := ?_) #[true, true, true, false, false, false, false, false, false, false, false, false, false, false, false, false, false, false, false, false, false, false, false, false, false, false, false, false, false, false, false, false, false, false] rfl rfl (any_of HT_.out (by kernel_rfl)) (fun _ _ _ h => h) (Or.inl ⟨by rfl, ?_⟩) ?_ ?_
            rotate_left
            ·intro w'
             go_simp
             with_reducible rfl
            rotate_left
            ·simp only [Act.put, List.setIfInBounds_toArray, List.set_cons_zero, List.set_cons_succ, i64_w, i32_w]
             rfl
            refine pure_ (i := 3) (N := some 67) (v := ?_) (a' := ?_) #[true, true, true, true, false, false, false, false, false, false, false, false, false, false, false, false, false, false, false, false, false, false, false, false, false, false, false, false, false, false, false, false, false, false] rfl rfl (any_of HT_.out (by kernel_rfl)) (fun _ _ _ h => h) (Or.inl ⟨by rfl, ?_⟩) ?_ ?_
            rotate_left
            ·intro w'
             go_simp
             with_reducible rfl
            rotate_left
            ·simp only [Act.put, List.setIfInBounds_toArray, List.set_cons_zero, List.set_cons_succ, i64_w, i32_w]
             rfl
            refine pure_ (i := 4) (N := some 68) (v := ?_) (a' := ?_) #[true, true, true, true, true, false, false, false, false, false, false, false, false, false, false, false, false, false, false, false, false, false, false, false, false, false, false, false, false, false, false, false, false, false] rfl rfl (any_of HT_.out (by kernel_rfl)) (fun _ _ _ h => h) (Or.inl ⟨by rfl, ?_⟩) ?_ ?_
            rotate_left
            ·intro w'
             go_simp
             with_reducible rfl
            rotate_left
            ·simp only [Act.put, List.setIfInBounds_toArray, List.set_cons_zero, List.set_cons_succ, i64_w, i32_w]
             rfl
            refine pure_ (i := 6) (N := some 70) (v := ?_) (a' := ?_) #[true, true, true, true, true, false, true, false, false, false, false, false, false, false, false, false, false, false, false, false, false, false, false, false, false, false, false, false, false, false, false, false, false, false] rfl rfl (any_of HT_.out (by kernel_rfl)) (fun _ _ _ h => h) (Or.inl ⟨by rfl, ?_⟩) ?_ ?_
            rotate_left
            ·intro w'
             go_simp
             with_reducible rfl
            rotate_left
            ·simp only [Act.put, List.setIfInBounds_toArray, List.set_cons_zero, List.set_cons_succ, i64_w, i32_w]
             rfl
            refine take_ (i := 5) (N := some 69) (v := ?_) (a' := ?_) #[true, true, true, true, true, true, true, false, false, false, false, false, false, false, false, false, false, false, false, false, false, false, false, false, false, false, false, false, false, false, false, false, false, false] rfl rfl (take_ofW HT_.out HW_.out (by kernel_rfl)) (fun _ _ _ h => h) (Or.inl ⟨by rfl, ?_⟩) hHeld ?_ ?_
            rotate_left
            ·rintro w' ⟨s0, s1, s2, s3, s4, s5, s6, s7, s8, s9, s10, s11, s12, s13, s14, s15⟩
             go_simp
             with_reducible rfl
            rotate_left
            ·simp only [Act.put, List.setIfInBounds_toArray, List.set_cons_zero, List.set_cons_succ, i64_w, i32_w]
             rfl
            refine take_ (i := 7) (N := some 71) (v := ?_) (a' := ?_) #[true, true, true, true, true, true, true, true, false, false, false, false, false, false, false, false, false, false, false, false, false, false, false, false, false, false, false, false, false, false, false, false, false, false] rfl rfl (take_ofW HT_.out HW_.out (by kernel_rfl)) (fun _ _ _ h => h) (Or.inl ⟨by rfl, ?_⟩) hHeld ?_ ?_
            rotate_left
            ·rintro w' ⟨s0, s1, s2, s3, s4, s5, s6, s7, s8, s9, s10, s11, s12, s13, s14, s15⟩
             go_simp
             with_reducible rfl
            rotate_left
            ·simp only [Act.put, List.setIfInBounds_toArray, List.set_cons_zero, List.set_cons_succ, i64_w, i32_w]
             rfl
            refine pure_ (i := 8) (N := some 72) (v := ?_) (a' := ?_) #[true, true, true, true, true, true, true, true, true, false, false, false, false, false, false, false, false, false, false, false, false, false, false, false, false, false, false, false, false, false, false, false, false, false] rfl rfl (any_of HT_.out (by kernel_rfl)) (fun _ _ _ h => h) (Or.inl ⟨by rfl, ?_⟩) ?_ ?_
            rotate_left
            ·intro w'
             go_simp
             with_reducible rfl
            rotate_left
            ·simp only [Act.put, List.setIfInBounds_toArray, List.set_cons_zero, List.set_cons_succ, i64_w, i32_w]
             rfl
            refine pure_ (i := 9) (N := some 73) (v := ?_) (a' := ?_) #[true, true, true, true, true, true, true, true, true, true, false, false, false, false, false, false, false, false, false, false, false, false, false, false, false, false, false, false, false, false, false, false, false, false] rfl rfl (any_of HT_.out (by kernel_rfl)) (fun _ _ _ h => h) (Or.inl ⟨by rfl, ?_⟩) ?_ ?_
            rotate_left
            ·intro w'
             go_simp
             with_reducible rfl
            rotate_left
            ·simp only [Act.put, List.setIfInBounds_toArray, List.set_cons_zero, List.set_cons_succ, i64_w, i32_w]
             rfl
            refine pure_ (i := 10) (N := some 74) (v := ?_) (a' := ?_) #[true, true, true, true, true, true, true, true, true, true, true, false, false, false, false, false, false, false, false, false, false, false, false, false, false, false, false, false, false, false, false, false, false, false] rfl rfl (any_of HT_.out (by kernel_rfl)) (fun _ _ _ h => h) (Or.inl ⟨by rfl, ?_⟩) ?_ ?_
            rotate_left
            ·intro w'
             go_simp
             with_reducible rfl
            rotate_left
            ·simp only [Act.put, List.setIfInBounds_toArray, List.set_cons_zero, List.set_cons_succ, i64_w, i32_w]
             rfl
            refine pure_ (i := 11) (N := some 75) (v := ?_) (a' := ?_) #[true, true, true, true, true, true, true, true, true, true, true, true, false, false, false, false, false, false, false, false, false, false, false, false, false, false, false, false, false, false, false, false, false, false] rfl rfl (any_of HT_.out (by kernel_rfl)) (fun _ _ _ h => h) (Or.inl ⟨by rfl, ?_⟩) ?_ ?_
            rotate_left
            ·intro w'
             go_simp
             with_reducible rfl
            rotate_left
            ·simp only [Act.put, List.setIfInBounds_toArray, List.set_cons_zero, List.set_cons_succ, i64_w, i32_w]
             rfl
            refine pure_ (i := 13) (N := some 77) (v := ?_) (a' := ?_) #[true, true, true, true, true, true, true, true, true, true, true, true, false, true, false, false, false, false, false, false, false, false, false, false, false, false, false, false, false, false, false, false, false, false] rfl rfl (any_of HT_.out (by kernel_rfl)) (fun _ _ _ h => h) (Or.inl ⟨by rfl, ?_⟩) ?_ ?_
            rotate_left
            ·intro w'
             go_simp
             with_reducible rfl
            rotate_left
            ·simp only [Act.put, List.setIfInBounds_toArray, List.set_cons_zero, List.set_cons_succ, i64_w, i32_w]
             rfl
            refine take_ (i := 12) (N := some 76) (v := ?_) (a' := ?_) #[true, true, true, true, true, true, true, true, true, true, true, true, true, true, false, false, false, false, false, false, false, false, false, false, false, false, false, false, false, false, false, false, false, false] rfl rfl (take_ofW HT_.out HW_.out (by kernel_rfl)) (fun _ _ _ h => h) (Or.inl ⟨by rfl, ?_⟩) hHeld ?_ ?_
            rotate_left
            ·rintro w' ⟨s0, s1, s2, s3, s4, s5, s6, s7, s8, s9, s10, s11, s12, s13, s14, s15⟩
             go_simp
             with_reducible rfl
            rotate_left
            ·simp only [Act.put, List.setIfInBounds_toArray, List.set_cons_zero, List.set_cons_succ, i64_w, i32_w]
             rfl
            refine take_ (i := 14) (N := some 78) (v := ?_) (a' := ?_) #[true, true, true, true, true, true, true, true, true, true, true, true, true, true, true, false, false, false, false, false, false, false, false, false, false, false, false, false, false, false, false, false, false, false] rfl rfl (take_ofW HT_.out HW_.out (by kernel_rfl)) (fun _ _ _ h => h) (Or.inl ⟨by rfl, ?_⟩) hHeld ?_ ?_
            rotate_left
            ·rintro w' ⟨s0, s1, s2, s3, s4, s5, s6, s7, s8, s9, s10, s11, s12, s13, s14, s15⟩
             go_simp
             with_reducible rfl
            rotate_left
            ·simp only [Act.put, List.setIfInBounds_toArray, List.set_cons_zero, List.set_cons_succ, i64_w, i32_w]
             rfl
            refine pure_ (i := 15) (N := some 79) (v := ?_) (a' := ?_) #[true, true, true, true, true, true, true, true, true, true, true, true, true, true, true, true, false, false, false, false, false, false, false, false, false, false, false, false, false, false, false, false, false, false] rfl rfl (any_of HT_.out (by kernel_rfl)) (fun _ _ _ h => h) (Or.inl ⟨by rfl, ?_⟩) ?_ ?_
            rotate_left
            ·intro w'
             go_simp
             with_reducible rfl
            rotate_left
            ·simp only [Act.put, List.setIfInBounds_toArray, List.set_cons_zero, List.set_cons_succ, i64_w, i32_w]
             rfl
            refine pure_ (i := 16) (N := some 80) (v := ?_) (a' := ?_) #[true, true, true, true, true, true, true, true, true, true, true, true, true, true, true, true, true, false, false, false, false, false, false, false, false, false, false, false, false, false, false, false, false, false] rfl rfl (any_of HT_.out (by kernel_rfl)) (fun _ _ _ h => h) (Or.inl ⟨by rfl, ?_⟩) ?_ ?_
            rotate_left
            ·intro w'
             go_simp
             with_reducible rfl
            rotate_left
            ·simp only [Act.put, List.setIfInBounds_toArray, List.set_cons_zero, List.set_cons_succ, i64_w, i32_w]
             rfl
            refine pure_ (i := 17) (N := some 81) (v := ?_) (a' := ?_) #[true, true, true, true, true, true, true, true, true, true, true, true, true, true, true, true, true, true, false, false, false, false, false, false, false, false, false, false, false, false, false, false, false, false] rfl rfl (any_of HT_.out (by kernel_rfl)) (fun _ _ _ h => h) (Or.inl ⟨by rfl, ?_⟩) ?_ ?_
            rotate_left
            ·intro w'
             go_simp
             with_reducible rfl
            rotate_left
            ·simp only [Act.put, List.setIfInBounds_toArray, List.set_cons_zero, List.set_cons_succ, i64_w, i32_w]
             rfl
            refine pure_ (i := 18) (N := some 82) (v := ?_) (a' := ?_) #[true, true, true, true, true, true, true, true, true, true, true, true, true, true, true, true, true, true, true, false, false, false, false, false, false, false, false, false, false, false, false, false, false, false] rfl rfl (any_of HT_.out (by kernel_rfl)) (fun _ _ _ h => h) (Or.inl ⟨by rfl, ?_⟩) ?_ ?_
            rotate_left
            ·intro w'
             go_simp
             with_reducible rfl
            rotate_left
            ·simp only [Act.put, List.setIfInBounds_toArray, List.set_cons_zero, List.set_cons_succ, i64_w, i32_w]
             rfl
            refine pure_ (i := 20) (N := some 84) (v := ?_) (a' := ?_) #[true, true, true, true, true, true, true, true, true, true, true, true, true, true, true, true, true, true, true, false, true, false, false, false, false, false, false, false, false, false, false, false, false, false] rfl rfl (any_of HT_.out (by kernel_rfl)) (fun _ _ _ h => h) (Or.inl ⟨by rfl, ?_⟩) ?_ ?_
            rotate_left
            ·intro w'
             go_simp
             with_reducible rfl
            rotate_left
            ·simp only [Act.put, List.setIfInBounds_toArray, List.set_cons_zero, List.set_cons_succ, i64_w, i32_w]
             rfl
            refine take_ (i := 19) (N := some 83) (v := ?_) (a' := ?_) #[true, true, true, true, true, true, true, true, true, true, true, true, true, true, true, true, true, true, true, true, true, false, false, false, false, false, false, false, false, false, false, false, false, false] rfl rfl (take_ofW HT_.out HW_.out (by kernel_rfl)) (fun _ _ _ h => h) (Or.inl ⟨by rfl, ?_⟩) hHeld ?_ ?_
            rotate_left
            ·rintro w' ⟨s0, s1, s2, s3, s4, s5, s6, s7, s8, s9, s10, s11, s12, s13, s14, s15⟩
             go_simp
             with_reducible rfl
            rotate_left
            ·simp only [Act.put, List.setIfInBounds_toArray, List.set_cons_zero, List.set_cons_succ, i64_w, i32_w]
             rfl
            refine take_ (i := 21) (N := some 85) (v := ?_) (a' := ?_) #[true, true, true, true, true, true, true, true, true, true, true, true, true, true, true, true, true, true, true, true, true, true, false, false, false, false, false, false, false, false, false, false, false, false] rfl rfl (take_ofW HT_.out HW_.out (by kernel_rfl)) (fun _ _ _ h => h) (Or.inl ⟨by rfl, ?_⟩) hHeld ?_ ?_
            rotate_left
            ·rintro w' ⟨s0, s1, s2, s3, s4, s5, s6, s7, s8, s9, s10, s11, s12, s13, s14, s15⟩
             go_simp
             with_reducible rfl
            rotate_left
            ·simp only [Act.put, List.setIfInBounds_toArray, List.set_cons_zero, List.set_cons_succ, i64_w, i32_w]
             rfl
            refine pure_ (i := 22) (N := some 86) (v := ?_) (a' := ?_) #[true, true, true, true, true, true, true, true, true, true, true, true, true, true, true, true, true, true, true, true, true, true, true, false, false, false, false, false, false, false, false, false, false, false] rfl rfl (any_of HT_.out (by kernel_rfl)) (fun _ _ _ h => h) (Or.inl ⟨by rfl, ?_⟩) ?_ ?_
            rotate_left
            ·intro w'
             go_simp
             with_reducible rfl
            rotate_left
            ·simp only [Act.put, List.setIfInBounds_toArray, List.set_cons_zero, List.set_cons_succ, i64_w, i32_w]
             rfl
            refine pure_ (i := 23) (N := some 87) (v := ?_) (a' := ?_) #[true, true, true, true, true, true, true, true, true, true, true, true, true, true, true, true, true, true, true, true, true, true, true, true, false, false, false, false, false, false, false, false, false, false] rfl rfl (any_of HT_.out (by kernel_rfl)) (fun _ _ _ h => h) (Or.inl ⟨by rfl, ?_⟩) ?_ ?_
            rotate_left
            ·intro w'
             go_simp
             with_reducible rfl
            rotate_left
            ·simp only [Act.put, List.setIfInBounds_toArray, List.set_cons_zero, List.set_cons_succ, i64_w, i32_w]
             rfl
            refine pure_ (i := 24) (N := some 88) (v := ?_) (a' := ?_) #[true, true, true, true, true, true, true, true, true, true, true, true, true, true, true, true, true, true, true, true, true, true, true, true, true, false, false, false, false, false, false, false, false, false] rfl rfl (any_of HT_.out (by kernel_rfl)) (fun _ _ _ h => h) (Or.inl ⟨by rfl, ?_⟩) ?_ ?_
            rotate_left
            ·intro w'
             go_simp
             with_reducible rfl
            rotate_left
            ·simp only [Act.put, List.setIfInBounds_toArray, List.set_cons_zero, List.set_cons_succ, i64_w, i32_w]
             rfl
            refine pure_ (i := 25) (N := some 89) (v := ?_) (a' := ?_) #[true, true, true, true, true, true, true, true, true, true, true, true, true, true, true, true, true, true, true, true, true, true, true, true, true, true, false, false, false, false, false, false, false, false] rfl rfl (any_of HT_.out (by kernel_rfl)) (fun _ _ _ h => h) (Or.inl ⟨by rfl, ?_⟩) ?_ ?_
            rotate_left
            ·intro w'
             go_simp
             with_reducible rfl
            rotate_left
            ·simp only [Act.put, List.setIfInBounds_toArray, List.set_cons_zero, List.set_cons_succ, i64_w, i32_w]
             rfl
            refine pure_ (i := 28) (N := some 92) (v := ?_) (a' := ?_) #[true, true, true, true, true, true, true, true, true, true, true, true, true, true, true, true, true, true, true, true, true, true, true, true, true, true, false, false, true, false, false, false, false, false] rfl rfl (any_of HT_.out (by kernel_rfl)) (fun _ _ _ h => h) (Or.inl ⟨by rfl, ?_⟩) ?_ ?_
            rotate_left
            ·intro w'
             go_simp
             with_reducible rfl
            rotate_left
            ·simp only [Act.put, List.setIfInBounds_toArray, List.set_cons_zero, List.set_cons_succ, i64_w, i32_w]
             rfl
            refine take_ (i := 26) (N := some 90) (v := ?_) (a' := ?_) #[true, true, true, true, true, true, true, true, true, true, true, true, true, true, true, true, true, true, true, true, true, true, true, true, true, true, true, false, true, false, false, false, false, false] rfl rfl (take_ofW HT_.out HW_.out (by kernel_rfl)) (fun _ _ _ h => h) (Or.inl ⟨by rfl, ?_⟩) hHeld ?_ ?_
            rotate_left
            ·rintro w' ⟨s0, s1, s2, s3, s4, s5, s6, s7, s8, s9, s10, s11, s12, s13, s14, s15⟩
             go_simp
             with_reducible rfl
            rotate_left
            ·simp only [Act.put, List.setIfInBounds_toArray, List.set_cons_zero, List.set_cons_succ, i64_w, i32_w]
             rfl
            refine take_ (i := 29) (N := some 93) (v := ?_) (a' := ?_) #[true, true, true, true, true, true, true, true, true, true, true, true, true, true, true, true, true, true, true, true, true, true, true, true, true, true, true, false, true, true, false, false, false, false] rfl rfl (take_ofW HT_.out HW_.out (by kernel_rfl)) (fun _ _ _ h => h) (Or.inl ⟨by rfl, ?_⟩) hHeld ?_ ?_
            rotate_left
            ·rintro w' ⟨s0, s1, s2, s3, s4, s5, s6, s7, s8, s9, s10, s11, s12, s13, s14, s15⟩
             go_simp
             with_reducible rfl
            rotate_left
            ·simp only [Act.put, List.setIfInBounds_toArray, List.set_cons_zero, List.set_cons_succ, i64_w, i32_w]
             rfl
            refine one_ (i := 27) (N := some 91) #[true, true, true, true, true, true, true, true, true, true, true, true, true, true, true, true, true, true, true, true, true, true, true, true, true, true, true, true, true, true, false, false, false, false] rfl rfl (one_of HT_.out (by kernel_rfl)) (by decide) (fun K hK => ?_)
            refine goes_ Try.func40 (by kernel_rfl) rfl #[.int .i64 t186] (by rfl) rfl rfl (by (try simp only [List.map_toArray, List.map_cons, List.map_nil]); first | done | rfl | (simp only [List.length_drop, List.length_take]; rfl)) ?_
            with_reducible refine (impl_OutOpen.calls t186 t231 t232 t233 t234 _ A76.out).mono ?_
            rintro e w99 ⟨rfl, hb⟩
            refine ⟨_, rfl, ?_⟩
            have n0_ := qM (blk_below (g := gb191) (o := .cells #[.int .i64 t186, .int .i64 t187, .int .i64 t188, .int .i64 t189] 53 (0, 0)) (by (with_reducible repeat (first | refine zN ?_ _ | refine zD ?_ | refine zA ?_ _)); exact BK191.out) hb)
            have n1_ := qM (blk_below (g := gb197) (o := .cells #[.int .i64 t192, .int .i64 t193, .int .i64 t194, .int .i64 t195] 53 (0, 0)) (by (with_reducible repeat (first | refine zN ?_ _ | refine zD ?_ | refine zA ?_ _)); exact BK197.out) hb)
            have n2_ := qM (blk_below (g := gb202) (o := .cells #[.int .i64 t198, .int .i64 t199, .int .i64 t200, .int .i64 t201] 53 (0, 0)) (by (with_reducible repeat (first | refine zN ?_ _ | refine zD ?_ | refine zA ?_ _)); exact BK202.out) hb)
            have n3_ := qM (blk_below (g := gb221) (o := .cells #[.int .i64 t217, .int .i64 t218, .int .i64 t219, .int .i64 t220] 53 (0, 0)) (by (with_reducible repeat (first | refine zN ?_ _ | refine zD ?_ | refine zA ?_ _)); exact BK221.out) hb)
            have n4_ := qM (blk_below (g := gb230) (o := .cells #[.int .i64 t226, .int .i64 t227, .int .i64 t228, .int .i64 t229] 53 (0, 0)) (by (with_reducible repeat (first | refine zN ?_ _ | refine zD ?_ | refine zA ?_ _)); exact BK230.out) hb)
            have n5_ := qM (below_step (by repeat (first | (with_reducible first | exact HB.out | apply yA | apply yN | apply yD | refine yS ?_ GE191.out | refine yS ?_ GE197.out | refine yS ?_ GE202.out | refine yS ?_ GE221.out | refine yS ?_ GE230.out) | exact HB.out)) hb)
            clear BK191
            clear BK197
            clear BK202
            clear BK221
            clear BK230
            clear HB
            have BK191 := n0_
            have BK197 := n1_
            have BK202 := n2_
            have BK221 := n3_
            have BK230 := n4_
            have HB := n5_
            clear n0_ n1_ n2_ n3_ n4_ n5_
            (try clear hb)
            (try clear hb2)
            (try clear hk)
            (try clear hi)
            refine hK.out _ _ ⟨(zC BK221.out 0).trans rfl, (zC BK221.out 1).trans rfl, (zC BK221.out 2).trans rfl, (zC BK221.out 3).trans rfl, (zC BK230.out 0).trans rfl, (zC BK230.out 1).trans rfl, (zC BK230.out 2).trans rfl, (zC BK230.out 3).trans rfl, (zC BK202.out 0).trans rfl, (zC BK202.out 1).trans rfl, (zC BK202.out 2).trans rfl, (zC BK202.out 3).trans rfl, (zC BK191.out 0).trans rfl, (zC BK191.out 1).trans rfl, (zC BK191.out 2).trans rfl, (zC BK191.out 3).trans rfl⟩ (fun hHeld => ?_)
            clear hK K
            refine norm_ (a' := ?_) ?_ ?_
            rotate_left
            ·show Act.put _ (some 91) _ = _
             simp only [Act.put, List.setIfInBounds_toArray, List.set_cons_zero, List.set_cons_succ, i64_w, i32_w]
             rfl
            refine one_ (i := 30) (N := some 94) #[true, true, true, true, true, true, true, true, true, true, true, true, true, true, true, true, true, true, true, true, true, true, true, true, true, true, true, true, true, true, true, false, false, false] rfl rfl (one_of HT_.out (by kernel_rfl)) (by decide) (fun K hK => ?_)
            refine goes_ Try.func41 (by kernel_rfl) rfl #[.int .i64 t186] (by rfl) rfl rfl (by (try simp only [List.map_toArray, List.map_cons, List.map_nil]); first | done | rfl | (simp only [List.length_drop, List.length_take]; rfl)) ?_
            with_reducible refine (spec_OutOpen.calls t186 t235 t236 t237 t238 _ A77.out).mono ?_
            rintro e w100 ⟨rfl, hb⟩
            refine ⟨_, rfl, ?_⟩
            have n0_ := qM (blk_below (g := gb191) (o := .cells #[.int .i64 t186, .int .i64 t187, .int .i64 t188, .int .i64 t189] 53 (0, 0)) (by (with_reducible repeat (first | refine zN ?_ _ | refine zD ?_ | refine zA ?_ _)); exact BK191.out) hb)
            have n1_ := qM (blk_below (g := gb197) (o := .cells #[.int .i64 t192, .int .i64 t193, .int .i64 t194, .int .i64 t195] 53 (0, 0)) (by (with_reducible repeat (first | refine zN ?_ _ | refine zD ?_ | refine zA ?_ _)); exact BK197.out) hb)
            have n2_ := qM (blk_below (g := gb202) (o := .cells #[.int .i64 t198, .int .i64 t199, .int .i64 t200, .int .i64 t201] 53 (0, 0)) (by (with_reducible repeat (first | refine zN ?_ _ | refine zD ?_ | refine zA ?_ _)); exact BK202.out) hb)
            have n3_ := qM (blk_below (g := gb221) (o := .cells #[.int .i64 t217, .int .i64 t218, .int .i64 t219, .int .i64 t220] 53 (0, 0)) (by (with_reducible repeat (first | refine zN ?_ _ | refine zD ?_ | refine zA ?_ _)); exact BK221.out) hb)
            have n4_ := qM (blk_below (g := gb230) (o := .cells #[.int .i64 t226, .int .i64 t227, .int .i64 t228, .int .i64 t229] 53 (0, 0)) (by (with_reducible repeat (first | refine zN ?_ _ | refine zD ?_ | refine zA ?_ _)); exact BK230.out) hb)
            have n5_ := qM (below_step (by repeat (first | (with_reducible first | exact HB.out | apply yA | apply yN | apply yD | refine yS ?_ GE191.out | refine yS ?_ GE197.out | refine yS ?_ GE202.out | refine yS ?_ GE221.out | refine yS ?_ GE230.out) | exact HB.out)) hb)
            clear BK191
            clear BK197
            clear BK202
            clear BK221
            clear BK230
            clear HB
            have BK191 := n0_
            have BK197 := n1_
            have BK202 := n2_
            have BK221 := n3_
            have BK230 := n4_
            have HB := n5_
            clear n0_ n1_ n2_ n3_ n4_ n5_
            (try clear hb)
            (try clear hb2)
            (try clear hk)
            (try clear hi)
            refine hK.out _ _ ⟨(zC BK221.out 0).trans rfl, (zC BK221.out 1).trans rfl, (zC BK221.out 2).trans rfl, (zC BK221.out 3).trans rfl, (zC BK230.out 0).trans rfl, (zC BK230.out 1).trans rfl, (zC BK230.out 2).trans rfl, (zC BK230.out 3).trans rfl, (zC BK202.out 0).trans rfl, (zC BK202.out 1).trans rfl, (zC BK202.out 2).trans rfl, (zC BK202.out 3).trans rfl, (zC BK191.out 0).trans rfl, (zC BK191.out 1).trans rfl, (zC BK191.out 2).trans rfl, (zC BK191.out 3).trans rfl⟩ (fun hHeld => ?_)
            clear hK K
            refine norm_ (a' := ?_) ?_ ?_
            rotate_left
            ·show Act.put _ (some 94) _ = _
             simp only [Act.put, List.setIfInBounds_toArray, List.set_cons_zero, List.set_cons_succ, i64_w, i32_w]
             rfl
            refine pure_ (i := 31) (N := some 95) (v := ?_) (a' := ?_) #[true, true, true, true, true, true, true, true, true, true, true, true, true, true, true, true, true, true, true, true, true, true, true, true, true, true, true, true, true, true, true, true, false, false] rfl rfl (any_of HT_.out (by kernel_rfl)) (fun _ _ _ h => h) (Or.inl ⟨by rfl, ?_⟩) ?_ ?_
            rotate_left
            ·intro w'
             go_simp
             with_reducible rfl
            rotate_left
            ·simp only [Act.put, List.setIfInBounds_toArray, List.set_cons_zero, List.set_cons_succ, i64_w, i32_w]
             rfl
            refine pure_ (i := 32) (N := some 96) (v := ?_) (a' := ?_) #[true, true, true, true, true, true, true, true, true, true, true, true, true, true, true, true, true, true, true, true, true, true, true, true, true, true, true, true, true, true, true, true, true, false] rfl rfl (any_of HT_.out (by kernel_rfl)) (fun _ _ _ h => h) (Or.inl ⟨by rfl, ?_⟩) ?_ ?_
            rotate_left
            ·intro w'
             go_simp
             with_reducible rfl
            rotate_left
            ·simp only [Act.put, List.setIfInBounds_toArray, List.set_cons_zero, List.set_cons_succ, i64_w, i32_w]
             rfl
            refine pure_ (i := 33) (N := some 4) (v := ?_) (a' := ?_) #[true, true, true, true, true, true, true, true, true, true, true, true, true, true, true, true, true, true, true, true, true, true, true, true, true, true, true, true, true, true, true, true, true, true] rfl rfl (any_of HT_.out (by kernel_rfl)) (fun _ _ _ h => h) (Or.inl ⟨by rfl, ?_⟩) ?_ ?_
            rotate_left
            ·intro w'
             go_simp
             with_reducible rfl
            rotate_left
            ·simp only [Act.put, List.setIfInBounds_toArray, List.set_cons_zero, List.set_cons_succ, i64_w, i32_w]
             rfl
            refine done_ (done_of HT_.out (by kernel_rfl)) ?_
            try go_wp2
            go_ret
            exact ⟨by first | rfl | (simp [errW_none, errW_some] <;> rfl) | (simp [*, errW_none, errW_some] <;> rfl), by repeat (first | (with_reducible first | exact HB.out | apply yA | apply yN | apply yD | refine yS ?_ GE191.out | refine yS ?_ GE197.out | refine yS ?_ GE202.out | refine yS ?_ GE221.out | refine yS ?_ GE230.out) | exact HB.out)⟩
           ·rw [if_neg c75] at H
            have c75b0 : (t219 == t188) = false := beq_eq_false_iff_ne.mpr c75
            have c75b1 : (t219 != t188) = true := bne_iff_ne.mpr c75
            exact absurd ((Option.some.inj H).trans hr_) (by decide)
          ·rw [if_neg c74] at H
           have c74b0 : (t220 == t189) = false := beq_eq_false_iff_ne.mpr c74
           have c74b1 : (t220 != t189) = true := bne_iff_ne.mpr c74
           exact absurd ((Option.some.inj H).trans hr_) (by decide)
         ·rw [if_neg c73] at H
          have c73b0 : decide (t199 ≤ t218) = false := decide_eq_false c73
          clear c73
          exact absurd ((Option.some.inj H).trans hr_) (by decide)
        ·rw [if_neg c72] at H
         have c72b0 : (t217 == t226 && (t218 == t227 && (t219 == t228 && (t220 == t229)))) = false := by simpa using c72
         (try (have c72b1 : decide (t217 = t226 && (t218 == t227 && (t219 == t228 && (t220 == t229)))) = false := by simpa using c72))
         (try (have c72b2 : (t217 == t226 && (t218 == t227 && (t219 == t228 && (t220 == t229)))) = false := by simpa using c72))
         (try (have c72b3 : ¬ (t217 = t226 && (t218 == t227 && (t219 == t228 && (t220 == t229)))) := by simpa using c72))
         clear c72
         exact absurd ((Option.some.inj H).trans hr_) (by decide)

/-- THE ONE PURE STATEMENT of laws_FnOutPeer. -/
def laws_FnOutPeer.Pure : Prop := ∀ (l0 : List Int) (l1 : List Int), l0.length ≤ maxLen → (∀ x ∈ l0, (Lit.int .u8 x).wf = true) → l1.length ≤ maxLen → (∀ x ∈ l1, (Lit.int .u8 x).wf = true) → ∃ k, laws_FnOutPeer.f k l0 l1 = some true

end Go.Proofs.Ytaohaebgpbagmaa.PFnOutPeer
