/- Functions that a law reaches, each with the walk that shows what its call answers; laid by a program of this session. -/
import Derived.Test.YtaohaebgpbagmaaPFnOutOncex0
import Derived.Test.YtaohaebgpbagmaaPFnOutOncex1
import Derived.Test.YtaohaebgpbagmaaPFnOutOncex4
namespace Go.Proofs.Ytaohaebgpbagmaa.PFnOutOnce
open Go.RowKit Go.Proofs.YtaohaebgpbagmaaW.PrintWords Go.Proofs.YtaohaebgpbagmaaW.PrintLast Go.Proofs.YtaohaebgpbagmaaW.PrintMore
attribute [local go_sem] max2_int min2_int max_two min_two max_three min_three max_four min_four   -- for this text's walks alone
set_option linter.unusedVariables false
set_option linter.unusedSimpArgs false

attribute [local go_sem high] eqA53
open Go.Proofs.YtaohaebgpbagmaaAl
/-! ### laws_FnOutOnce: function 9 -/
mutual
def laws_FnOutOnce.j0 : Nat → Bool → Bool → Int → Int → Int → Int → Option (Bool)
 | 0, _, _, _, _, _, _ => none
 | k + 1, x7, x55, x175000, x175001, x175002, x175003 => if x55 = true then (some false) else ((spec_OutOk.f x175000 x175001 x175002 x175003).bind fun t191 => (if t191 = true then (laws_FnOutOnce.l0 k (wrap64 ((wrap64 ((wrap64 (200 - x175002)) * 16)) - x175003)) (-1) 0 x175000 x175001 x175002 x175003) else (if x7 = true then (some false) else ((impl_OutOk.f 1 0 0 0).bind fun t192 => (some t192)))))
def laws_FnOutOnce.l0 : Nat → Int → Int → Int → Int → Int → Int → Int → Option (Bool)
 | 0, _, _, _, _, _, _, _ => none
 | k + 1, x12, x13, x14, x175000, x175001, x175002, x175003 => if x14 < 40 then ((impl_OutNext.f x175000 x175001 x175002 x175003).bind fun bt194 => (if (bt194.2.2.2.2.2.2 != (decide (x14 < x12))) = true then (laws_FnOutOnce.j2 k x12 x13 x14 bt194.2.2.2.2.1 bt194.2.2.2.2.2.1 bt194.2.2.2.2.2.2 true bt194.1 bt194.2.1 bt194.2.2.1 bt194.2.2.2.1) else (if bt194.2.1 = x175001 then (laws_FnOutOnce.j2 k x12 x13 x14 bt194.2.2.2.2.1 bt194.2.2.2.2.2.1 bt194.2.2.2.2.2.2 (bt194.1 != x175000) bt194.1 bt194.2.1 bt194.2.2.1 bt194.2.2.2.1) else (laws_FnOutOnce.j2 k x12 x13 x14 bt194.2.2.2.2.1 bt194.2.2.2.2.2.1 bt194.2.2.2.2.2.2 true bt194.1 bt194.2.1 bt194.2.2.1 bt194.2.2.2.1)))) else ((impl_OutOk.f x175000 x175001 x175002 x175003).bind fun t193 => (some t193))
def laws_FnOutOnce.j2 : Nat → Int → Int → Int → Int → Int → Bool → Bool → Int → Int → Int → Int → Option (Bool)
 | 0, _, _, _, _, _, _, _, _, _, _, _ => none
 | k + 1, x12, x13, x14, x16, x17, x18, x101, x202000, x202001, x202002, x202003 => if x101 = true then (some false) else (if x18 = true then (laws_FnOutOnce.j3 k x12 x13 x14 x16 x17 x18 (decide ((wrap64 ((wrap64 (x16 * 100)) + x17)) ≤ x13)) x202000 x202001 x202002 x202003) else (laws_FnOutOnce.j3 k x12 x13 x14 x16 x17 x18 false x202000 x202001 x202002 x202003))
def laws_FnOutOnce.j3 : Nat → Int → Int → Int → Int → Int → Bool → Bool → Int → Int → Int → Int → Option (Bool)
 | 0, _, _, _, _, _, _, _, _, _, _, _ => none
 | k + 1, x12, x13, x14, x16, x17, x18, x110, x202000, x202001, x202002, x202003 => if x110 = true then (some false) else (if x18 = true then (laws_FnOutOnce.l0 k x12 (wrap64 ((wrap64 (x16 * 100)) + x17)) (wrap64 (x14 + 1)) x202000 x202001 x202002 x202003) else (laws_FnOutOnce.l0 k x12 x13 (wrap64 (x14 + 1)) x202000 x202001 x202002 x202003))
end
def laws_FnOutOnce.f (k : Nat) (l0 : List Int) : Option (Bool) := if (l0.length : Int) > 1048576 then (some true) else ((spec_DrawOutNext.f k l0).bind fun bt170 => ((impl_OutNext.f bt170.1 bt170.2.1 bt170.2.2.1 bt170.2.2.2).bind fun bt175 => ((spec_OutNext.f bt170.1 bt170.2.1 bt170.2.2.1 bt170.2.2.2).bind fun bt183 => (if (!(bt175.1 == bt183.1) || (!(bt175.2.1 == bt183.2.1) || (!(bt175.2.2.1 == bt183.2.2.1) || (!(bt175.2.2.2.1 == bt183.2.2.2.1))))) = true then (laws_FnOutOnce.j0 k bt175.2.2.2.2.2.2 true bt170.1 bt170.2.1 bt170.2.2.1 bt170.2.2.2) else (if bt175.2.2.2.2.1 = bt183.2.2.2.2.1 then (if bt175.2.2.2.2.2.1 = bt183.2.2.2.2.2.1 then (laws_FnOutOnce.j0 k bt175.2.2.2.2.2.2 (bt175.2.2.2.2.2.2 != bt183.2.2.2.2.2.2) bt170.1 bt170.2.1 bt170.2.2.1 bt170.2.2.2) else (laws_FnOutOnce.j0 k bt175.2.2.2.2.2.2 true bt170.1 bt170.2.1 bt170.2.2.1 bt170.2.2.2)) else (laws_FnOutOnce.j0 k bt175.2.2.2.2.2.2 true bt170.1 bt170.2.1 bt170.2.2.1 bt170.2.2.2))))))
theorem laws_FnOutOnce.mono_l : ∀ k, (∀ y0 y1 y2 y3 y4 y5, LeO (laws_FnOutOnce.j0 k y0 y1 y2 y3 y4 y5) (laws_FnOutOnce.j0 (k + 1) y0 y1 y2 y3 y4 y5)) ∧ (∀ y0 y1 y2 y3 y4 y5 y6, LeO (laws_FnOutOnce.l0 k y0 y1 y2 y3 y4 y5 y6) (laws_FnOutOnce.l0 (k + 1) y0 y1 y2 y3 y4 y5 y6)) ∧ (∀ y0 y1 y2 y3 y4 y5 y6 y7 y8 y9 y10, LeO (laws_FnOutOnce.j2 k y0 y1 y2 y3 y4 y5 y6 y7 y8 y9 y10) (laws_FnOutOnce.j2 (k + 1) y0 y1 y2 y3 y4 y5 y6 y7 y8 y9 y10)) ∧ (∀ y0 y1 y2 y3 y4 y5 y6 y7 y8 y9 y10, LeO (laws_FnOutOnce.j3 k y0 y1 y2 y3 y4 y5 y6 y7 y8 y9 y10) (laws_FnOutOnce.j3 (k + 1) y0 y1 y2 y3 y4 y5 y6 y7 y8 y9 y10))
 | 0 => ⟨fun _ _ _ _ _ _ r h => by simp [laws_FnOutOnce.j0] at h, fun _ _ _ _ _ _ _ r h => by simp [laws_FnOutOnce.l0] at h, fun _ _ _ _ _ _ _ _ _ _ _ r h => by simp [laws_FnOutOnce.j2] at h, fun _ _ _ _ _ _ _ _ _ _ _ r h => by simp [laws_FnOutOnce.j3] at h⟩
 | k + 1 => by
  obtain ⟨ih0, ih1, ih2, ih3⟩ := laws_FnOutOnce.mono_l k
  refine ⟨?_, ?_, ?_, ?_⟩
  ·intro y0 y1 y2 y3 y4 y5
   unfold laws_FnOutOnce.j0
   repeat' first
   | (with_reducible exact ih0 _ _ _ _ _ _)
   | (with_reducible exact ih1 _ _ _ _ _ _ _)
   | (with_reducible exact ih2 _ _ _ _ _ _ _ _ _ _ _)
   | (with_reducible exact ih3 _ _ _ _ _ _ _ _ _ _ _)
   | (with_reducible exact spec_DrawOutNext.mono _ _)
   | (with_reducible exact LeO.refl _)
   | (with_reducible exact LeO.none _)
   | (with_reducible refine LeO.ite ?_ ?_)
   | (with_reducible refine LeO.bind ?_ (fun _ => ?_))
   | exact ih0 _ _ _ _ _ _
   | exact ih1 _ _ _ _ _ _ _
   | exact ih2 _ _ _ _ _ _ _ _ _ _ _
   | exact ih3 _ _ _ _ _ _ _ _ _ _ _
   | exact spec_DrawOutNext.mono _ _
   | exact LeO.none _
   | refine LeO.ite ?_ ?_
   | refine LeO.bind ?_ (fun _ => ?_)
  ·intro y0 y1 y2 y3 y4 y5 y6
   unfold laws_FnOutOnce.l0
   repeat' first
   | (with_reducible exact ih0 _ _ _ _ _ _)
   | (with_reducible exact ih1 _ _ _ _ _ _ _)
   | (with_reducible exact ih2 _ _ _ _ _ _ _ _ _ _ _)
   | (with_reducible exact ih3 _ _ _ _ _ _ _ _ _ _ _)
   | (with_reducible exact spec_DrawOutNext.mono _ _)
   | (with_reducible exact LeO.refl _)
   | (with_reducible exact LeO.none _)
   | (with_reducible refine LeO.ite ?_ ?_)
   | (with_reducible refine LeO.bind ?_ (fun _ => ?_))
   | exact ih0 _ _ _ _ _ _
   | exact ih1 _ _ _ _ _ _ _
   | exact ih2 _ _ _ _ _ _ _ _ _ _ _
   | exact ih3 _ _ _ _ _ _ _ _ _ _ _
   | exact spec_DrawOutNext.mono _ _
   | exact LeO.none _
   | refine LeO.ite ?_ ?_
   | refine LeO.bind ?_ (fun _ => ?_)
  ·intro y0 y1 y2 y3 y4 y5 y6 y7 y8 y9 y10
   unfold laws_FnOutOnce.j2
   repeat' first
   | (with_reducible exact ih0 _ _ _ _ _ _)
   | (with_reducible exact ih1 _ _ _ _ _ _ _)
   | (with_reducible exact ih2 _ _ _ _ _ _ _ _ _ _ _)
   | (with_reducible exact ih3 _ _ _ _ _ _ _ _ _ _ _)
   | (with_reducible exact spec_DrawOutNext.mono _ _)
   | (with_reducible exact LeO.refl _)
   | (with_reducible exact LeO.none _)
   | (with_reducible refine LeO.ite ?_ ?_)
   | (with_reducible refine LeO.bind ?_ (fun _ => ?_))
   | exact ih0 _ _ _ _ _ _
   | exact ih1 _ _ _ _ _ _ _
   | exact ih2 _ _ _ _ _ _ _ _ _ _ _
   | exact ih3 _ _ _ _ _ _ _ _ _ _ _
   | exact spec_DrawOutNext.mono _ _
   | exact LeO.none _
   | refine LeO.ite ?_ ?_
   | refine LeO.bind ?_ (fun _ => ?_)
  ·intro y0 y1 y2 y3 y4 y5 y6 y7 y8 y9 y10
   unfold laws_FnOutOnce.j3
   repeat' first
   | (with_reducible exact ih0 _ _ _ _ _ _)
   | (with_reducible exact ih1 _ _ _ _ _ _ _)
   | (with_reducible exact ih2 _ _ _ _ _ _ _ _ _ _ _)
   | (with_reducible exact ih3 _ _ _ _ _ _ _ _ _ _ _)
   | (with_reducible exact spec_DrawOutNext.mono _ _)
   | (with_reducible exact LeO.refl _)
   | (with_reducible exact LeO.none _)
   | (with_reducible refine LeO.ite ?_ ?_)
   | (with_reducible refine LeO.bind ?_ (fun _ => ?_))
   | exact ih0 _ _ _ _ _ _
   | exact ih1 _ _ _ _ _ _ _
   | exact ih2 _ _ _ _ _ _ _ _ _ _ _
   | exact ih3 _ _ _ _ _ _ _ _ _ _ _
   | exact spec_DrawOutNext.mono _ _
   | exact LeO.none _
   | refine LeO.ite ?_ ?_
   | refine LeO.bind ?_ (fun _ => ?_)
theorem laws_FnOutOnce.mono : ∀ a0 k, LeO (laws_FnOutOnce.f k a0) (laws_FnOutOnce.f (k + 1) a0) := by
 intro a0 k
 obtain ⟨ih0, ih1, ih2, ih3⟩ := laws_FnOutOnce.mono_l k
 unfold laws_FnOutOnce.f
 repeat' first
   | (with_reducible exact ih0 _ _ _ _ _ _)
   | (with_reducible exact ih1 _ _ _ _ _ _ _)
   | (with_reducible exact ih2 _ _ _ _ _ _ _ _ _ _ _)
   | (with_reducible exact ih3 _ _ _ _ _ _ _ _ _ _ _)
   | (with_reducible exact spec_DrawOutNext.mono _ _)
   | (with_reducible exact LeO.refl _)
   | (with_reducible exact LeO.none _)
   | (with_reducible refine LeO.ite ?_ ?_)
   | (with_reducible refine LeO.bind ?_ (fun _ => ?_))
   | exact ih0 _ _ _ _ _ _
   | exact ih1 _ _ _ _ _ _ _
   | exact ih2 _ _ _ _ _ _ _ _ _ _ _
   | exact ih3 _ _ _ _ _ _ _ _ _ _ _
   | exact spec_DrawOutNext.mono _ _
   | exact LeO.none _
   | refine LeO.ite ?_ ?_
   | refine LeO.bind ?_ (fun _ => ?_)
set_option maxHeartbeats 8000000 in
set_option maxRecDepth 100000 in
theorem laws_FnOutOnce.calls (k : Nat) (A0 : Option Addr) (c0 : Nat) (l0 : List Int) (r : Bool) (w : World) (hr0 : Kd.C (Kd.int .u8) w A0 l0.length l0) (hc0 : l0.length ≤ c0) (h : laws_FnOutOnce.f k l0 = some r) :
  Calls Try.prog 9 #[.slice A0 l0.length c0] w fun e w' => e = .returned (.bool r) ∧ Below w.heap.size w w' := by
 have hu53 := Try.underlying53
 have HR0 := qM hr0
 have HC0 := qM hc0
 clear hr0 hc0
 have HB := qM (Below.refl w.heap.size w)
 have H : (if (l0.length : Int) > 1048576 then (some true) else ((spec_DrawOutNext.f k l0).bind fun bt170 => ((impl_OutNext.f bt170.1 bt170.2.1 bt170.2.2.1 bt170.2.2.2).bind fun bt175 => ((spec_OutNext.f bt170.1 bt170.2.1 bt170.2.2.1 bt170.2.2.2).bind fun bt183 => (if (!(bt175.1 == bt183.1) || (!(bt175.2.1 == bt183.2.1) || (!(bt175.2.2.1 == bt183.2.2.1) || (!(bt175.2.2.2.1 == bt183.2.2.2.1))))) = true then (laws_FnOutOnce.j0 k bt175.2.2.2.2.2.2 true bt170.1 bt170.2.1 bt170.2.2.1 bt170.2.2.2) else (if bt175.2.2.2.2.1 = bt183.2.2.2.2.1 then (if bt175.2.2.2.2.2.1 = bt183.2.2.2.2.2.1 then (laws_FnOutOnce.j0 k bt175.2.2.2.2.2.2 (bt175.2.2.2.2.2.2 != bt183.2.2.2.2.2.2) bt170.1 bt170.2.1 bt170.2.2.1 bt170.2.2.2) else (laws_FnOutOnce.j0 k bt175.2.2.2.2.2.2 true bt170.1 bt170.2.1 bt170.2.2.1 bt170.2.2.2)) else (laws_FnOutOnce.j0 k bt175.2.2.2.2.2.2 true bt170.1 bt170.2.1 bt170.2.2.1 bt170.2.2.2))))))) = some r := h
 clear h
 by_cases c2 : (l0.length : Int) > 1048576
 ·rw [if_pos c2] at H
  have c2b0 : decide (1048576 < (l0.length : Int)) = true := decide_eq_true c2
  have c2b1 : decide (1048576 < l0.length) = true := decide_eq_true (by omega)
  clear c2
  obtain rfl := Option.some.inj H
  go_enter Try.func9, Try.ntmps9
  go_wp2
  go_ret
  exact ⟨by first | rfl | (simp [errW_none, errW_some] <;> rfl) | (simp [*, errW_none, errW_some] <;> rfl), by repeat (first | (with_reducible first | exact HB.out | apply yA | apply yN | apply yD) | exact HB.out)⟩
 ·rw [if_neg c2] at H
  have c2b0 : decide (1048576 < (l0.length : Int)) = false := decide_eq_false c2
  have c2b1 : decide (1048576 < l0.length) = false := decide_eq_false (by omega)
  clear c2
  replace H := Option.bind_eq_some_iff.mp H
  obtain ⟨⟨t170, t171, t172, t173⟩, A30, H⟩ := H
  replace H : ((impl_OutNext.f t170 t171 t172 t173).bind fun bt175 => ((spec_OutNext.f t170 t171 t172 t173).bind fun bt183 => (if (!(bt175.1 == bt183.1) || (!(bt175.2.1 == bt183.2.1) || (!(bt175.2.2.1 == bt183.2.2.1) || (!(bt175.2.2.2.1 == bt183.2.2.2.1))))) = true then (laws_FnOutOnce.j0 k bt175.2.2.2.2.2.2 true t170 t171 t172 t173) else (if bt175.2.2.2.2.1 = bt183.2.2.2.2.1 then (if bt175.2.2.2.2.2.1 = bt183.2.2.2.2.2.1 then (laws_FnOutOnce.j0 k bt175.2.2.2.2.2.2 (bt175.2.2.2.2.2.2 != bt183.2.2.2.2.2.2) t170 t171 t172 t173) else (laws_FnOutOnce.j0 k bt175.2.2.2.2.2.2 true t170 t171 t172 t173)) else (laws_FnOutOnce.j0 k bt175.2.2.2.2.2.2 true t170 t171 t172 t173))))) = some r := H
  have A3 := qM A30
  clear A30
  replace H := Option.bind_eq_some_iff.mp H
  obtain ⟨⟨t175, t176, t177, t178, t179, t180, t181⟩, A40, H⟩ := H
  replace H : ((spec_OutNext.f t170 t171 t172 t173).bind fun bt183 => (if (!(t175 == bt183.1) || (!(t176 == bt183.2.1) || (!(t177 == bt183.2.2.1) || (!(t178 == bt183.2.2.2.1))))) = true then (laws_FnOutOnce.j0 k t181 true t170 t171 t172 t173) else (if t179 = bt183.2.2.2.2.1 then (if t180 = bt183.2.2.2.2.2.1 then (laws_FnOutOnce.j0 k t181 (t181 != bt183.2.2.2.2.2.2) t170 t171 t172 t173) else (laws_FnOutOnce.j0 k t181 true t170 t171 t172 t173)) else (laws_FnOutOnce.j0 k t181 true t170 t171 t172 t173)))) = some r := H
  have A4 := qM A40
  clear A40
  replace H := Option.bind_eq_some_iff.mp H
  obtain ⟨⟨t183, t184, t185, t186, t187, t188, t189⟩, A50, H⟩ := H
  replace H : (if (!(t175 == t183) || (!(t176 == t184) || (!(t177 == t185) || (!(t178 == t186))))) = true then (laws_FnOutOnce.j0 k t181 true t170 t171 t172 t173) else (if t179 = t187 then (if t180 = t188 then (laws_FnOutOnce.j0 k t181 (t181 != t189) t170 t171 t172 t173) else (laws_FnOutOnce.j0 k t181 true t170 t171 t172 t173)) else (laws_FnOutOnce.j0 k t181 true t170 t171 t172 t173))) = some r := H
  have A5 := qM A50
  clear A50
  have HC6 := qM H
  clear H
  go_enter Try.func9, Try.ntmps9
  go_upto_region 6 with (first | ((with_reducible refine gate_callee (f := 32) rfl ?_); refine goesL_ (some 23) rfl rfl Try.func32 (by kernel_rfl) rfl #[.slice A0 l0.length c0] rfl (by (try simp only [List.map_toArray, List.map_cons, List.map_nil]); first | done | rfl | (simp only [List.length_drop, List.length_take]; rfl)) ?_; (with_reducible refine (spec_DrawOutNext.calls k _ _ l0 t170 t171 t172 t173 _ ?side1 ?side2 A3.out).mono ?_); (case side1 => repeat (first | exact HR0.out | (with_reducible refine Kd.C_alloc ?_ _) | (with_reducible refine Kd.C_drewN ?_ _) | (with_reducible refine Kd.C_drew ?_))); (case side2 => exact HC0.out); rintro e w7 ⟨rfl, hb⟩; refine ⟨_, rfl, ?_⟩; have n0_ := qM (below_step (by repeat (first | (with_reducible first | exact HB.out | apply yA | apply yN | apply yD) | exact HB.out)) hb); clear HB; have HB := n0_; clear n0_; (try clear hb); (try clear hb2); (try clear hk); (try clear hi)) | ((with_reducible refine gate_dst (N := 3) rfl ?_); refine box_event ?hg (N := 3) ?hd (cs := #[.int .i64 0, .int .i64 0, .int .i64 0, .int .i64 0]) (t := 53) ?hr ?_; (case hd => rfl); (case hg => rfl); (case hr => first | (go_simp; done) | (go_simp; rfl)); intro gb174 hg w8 hbox hb; have n0_ := qM (below_step (by repeat (first | (with_reducible first | exact HB.out | apply yA | apply yN | apply yD) | exact HB.out)) hb); have n1_ := qM (hbox); have n2_ := qM ((by rw [hg]; exact (below_size (by repeat (first | (with_reducible first | exact HB.out | apply yA | apply yN | apply yD) | exact HB.out))) : w.heap.size ≤ gb174)); have n3_ := qM ((by rw [hg]; exact (below_size (by repeat (first | (with_reducible first | exact HB.out | apply yA | apply yN | apply yD) | exact HB.out))) : w.heap.size ≤ gb174)); clear HB; have HB := n0_; have BK174 := n1_; have GW174 := n2_; have GE174 := n3_; clear n0_ n1_ n2_ n3_; clear hb hbox hg; have hcz9_0 : w8.cell? ⟨gb174, 0, none⟩ = some (.int .i64 0) := (zC BK174.out 0).trans rfl; have hcz9_1 : w8.cell? ⟨gb174, 1, none⟩ = some (.int .i64 0) := (zC BK174.out 1).trans rfl; have hcz9_2 : w8.cell? ⟨gb174, 2, none⟩ = some (.int .i64 0) := (zC BK174.out 2).trans rfl; have hcz9_3 : w8.cell? ⟨gb174, 3, none⟩ = some (.int .i64 0) := (zC BK174.out 3).trans rfl; have hfz9_0 := zF BK174.out 0; have hfz9_1 := zF BK174.out 1; have hfz9_2 := zF BK174.out 2; have hfz9_3 := zF BK174.out 3) | ((with_reducible refine gate_callee (f := 33) rfl ?_); refine goesL_ (some 26) rfl rfl Try.func33 (by kernel_rfl) rfl #[.agg #[.int .i64 t170, .int .i64 t171, .int .i64 t172, .int .i64 t173]] rfl (by (try simp only [List.map_toArray, List.map_cons, List.map_nil]); first | done | rfl | (simp only [List.length_drop, List.length_take]; rfl)) ?_; (with_reducible refine (impl_OutNext.calls t170 t171 t172 t173 t175 t176 t177 t178 t179 t180 t181 _ A4.out).mono ?_); rintro e w10 ⟨rfl, hb⟩; refine ⟨_, rfl, ?_⟩; have n0_ := qM (blk_below (g := gb174) (o := .cells #[.int .i64 t170, .int .i64 t171, .int .i64 t172, .int .i64 t173] 53 (0, 0)) (by (with_reducible repeat (first | refine zN ?_ _ | refine zD ?_ | refine zA ?_ _)); refine blk_put (cs := #[.int .i64 t170, .int .i64 t171, .int .i64 t172, .int .i64 0]) ?_ 3 _ rfl; (with_reducible repeat (first | refine zN ?_ _ | refine zD ?_ | refine zA ?_ _)); refine blk_put (cs := #[.int .i64 t170, .int .i64 t171, .int .i64 0, .int .i64 0]) ?_ 2 _ rfl; (with_reducible repeat (first | refine zN ?_ _ | refine zD ?_ | refine zA ?_ _)); refine blk_put (cs := #[.int .i64 t170, .int .i64 0, .int .i64 0, .int .i64 0]) ?_ 1 _ rfl; (with_reducible repeat (first | refine zN ?_ _ | refine zD ?_ | refine zA ?_ _)); refine blk_put (cs := #[.int .i64 0, .int .i64 0, .int .i64 0, .int .i64 0]) ?_ 0 _ rfl; (with_reducible repeat (first | refine zN ?_ _ | refine zD ?_ | refine zA ?_ _)); exact BK174.out) hb); have n1_ := qM (below_step (by repeat (first | (with_reducible first | exact HB.out | apply yA | apply yN | apply yD | refine yS ?_ GE174.out) | exact HB.out)) hb); clear BK174; clear HB; have BK174 := n0_; have HB := n1_; clear n0_ n1_; (try clear hb); (try clear hb2); (try clear hk); (try clear hi)) | ((with_reducible refine gate_dst (N := 4) rfl ?_); refine box_event ?hg (N := 4) ?hd (cs := #[.int .i64 0, .int .i64 0, .int .i64 0, .int .i64 0]) (t := 53) ?hr ?_; (case hd => rfl); (case hg => rfl); (case hr => first | (go_simp; done) | (go_simp; rfl)); intro gb182 hg w11 hbox hb; have n0_ := qM (blk_below (g := gb174) (o := .cells #[.int .i64 t170, .int .i64 t171, .int .i64 t172, .int .i64 t173] 53 (0, 0)) (by (with_reducible repeat (first | refine zN ?_ _ | refine zD ?_ | refine zA ?_ _)); exact BK174.out) hb); have n1_ := qM (below_step (by repeat (first | (with_reducible first | exact HB.out | apply yA | apply yN | apply yD | refine yS ?_ GE174.out) | exact HB.out)) hb); have n2_ := qM (hbox); have n3_ := qM ((by rw [hg]; exact (below_size (by repeat (first | (with_reducible first | exact HB.out | apply yA | apply yN | apply yD | refine yS ?_ GE174.out) | exact HB.out))) : w.heap.size ≤ gb182)); have n4_ := qM ((by rw [hg]; exact (below_size (by repeat (first | (with_reducible first | exact HB.out | apply yA | apply yN | apply yD | refine yS ?_ GE174.out) | exact HB.out))) : w.heap.size ≤ gb182)); have n5_ := qM ((by rw [hg]; exact Nat.ne_of_lt (blk_lt (g := gb174) (o := .cells #[.int .i64 t170, .int .i64 t171, .int .i64 t172, .int .i64 t173] 53 (0, 0)) (by (with_reducible repeat (first | refine zN ?_ _ | refine zD ?_ | refine zA ?_ _)); exact BK174.out)) : gb174 ≠ gb182)); have n6_ := qM ((by rw [hg]; exact Nat.ne_of_gt (blk_lt (g := gb174) (o := .cells #[.int .i64 t170, .int .i64 t171, .int .i64 t172, .int .i64 t173] 53 (0, 0)) (by (with_reducible repeat (first | refine zN ?_ _ | refine zD ?_ | refine zA ?_ _)); exact BK174.out)) : gb182 ≠ gb174)); clear BK174; clear HB; have BK174 := n0_; have HB := n1_; have BK182 := n2_; have GW182 := n3_; have GE182 := n4_; have NB174_182 := n5_; have NB182_174 := n6_; clear n0_ n1_ n2_ n3_ n4_ n5_ n6_; clear hb hbox hg; have hnb12 := NB182_174.out; have hnc12 := NB174_182.out; have hcz13_0 : w11.cell? ⟨gb182, 0, none⟩ = some (.int .i64 0) := (zC BK182.out 0).trans rfl; have hcz13_1 : w11.cell? ⟨gb182, 1, none⟩ = some (.int .i64 0) := (zC BK182.out 1).trans rfl; have hcz13_2 : w11.cell? ⟨gb182, 2, none⟩ = some (.int .i64 0) := (zC BK182.out 2).trans rfl; have hcz13_3 : w11.cell? ⟨gb182, 3, none⟩ = some (.int .i64 0) := (zC BK182.out 3).trans rfl; have hfz13_0 := zF BK182.out 0; have hfz13_1 := zF BK182.out 1; have hfz13_2 := zF BK182.out 2; have hfz13_3 := zF BK182.out 3; have hcz14_0 : w11.cell? ⟨gb174, 0, none⟩ = some (.int .i64 t170) := (zC BK174.out 0).trans rfl; have hcz14_1 : w11.cell? ⟨gb174, 1, none⟩ = some (.int .i64 t171) := (zC BK174.out 1).trans rfl; have hcz14_2 : w11.cell? ⟨gb174, 2, none⟩ = some (.int .i64 t172) := (zC BK174.out 2).trans rfl; have hcz14_3 : w11.cell? ⟨gb174, 3, none⟩ = some (.int .i64 t173) := (zC BK174.out 3).trans rfl; have hfz14_0 := zF BK174.out 0; have hfz14_1 := zF BK174.out 1; have hfz14_2 := zF BK174.out 2; have hfz14_3 := zF BK174.out 3) | ((with_reducible refine gate_callee (f := 34) rfl ?_); refine goesL_ (some 33) rfl rfl Try.func34 (by kernel_rfl) rfl #[.agg #[.int .i64 t170, .int .i64 t171, .int .i64 t172, .int .i64 t173]] rfl (by (try simp only [List.map_toArray, List.map_cons, List.map_nil]); first | done | rfl | (simp only [List.length_drop, List.length_take]; rfl)) ?_; (with_reducible refine (spec_OutNext.calls t170 t171 t172 t173 t183 t184 t185 t186 t187 t188 t189 _ A5.out).mono ?_); rintro e w15 ⟨rfl, hb⟩; refine ⟨_, rfl, ?_⟩; have n0_ := qM (blk_below (g := gb174) (o := .cells #[.int .i64 t170, .int .i64 t171, .int .i64 t172, .int .i64 t173] 53 (0, 0)) (by (with_reducible repeat (first | refine zN ?_ _ | refine zD ?_ | refine zA ?_ _)); refine blk_far ?_ NB174_182.out _; (with_reducible repeat (first | refine zN ?_ _ | refine zD ?_ | refine zA ?_ _)); refine blk_far ?_ NB174_182.out _; (with_reducible repeat (first | refine zN ?_ _ | refine zD ?_ | refine zA ?_ _)); refine blk_far ?_ NB174_182.out _; (with_reducible repeat (first | refine zN ?_ _ | refine zD ?_ | refine zA ?_ _)); refine blk_far ?_ NB174_182.out _; (with_reducible repeat (first | refine zN ?_ _ | refine zD ?_ | refine zA ?_ _)); exact BK174.out) hb); have n1_ := qM (blk_below (g := gb182) (o := .cells #[.int .i64 t175, .int .i64 t176, .int .i64 t177, .int .i64 t178] 53 (0, 0)) (by (with_reducible repeat (first | refine zN ?_ _ | refine zD ?_ | refine zA ?_ _)); refine blk_put (cs := #[.int .i64 t175, .int .i64 t176, .int .i64 t177, .int .i64 0]) ?_ 3 _ rfl; (with_reducible repeat (first | refine zN ?_ _ | refine zD ?_ | refine zA ?_ _)); refine blk_put (cs := #[.int .i64 t175, .int .i64 t176, .int .i64 0, .int .i64 0]) ?_ 2 _ rfl; (with_reducible repeat (first | refine zN ?_ _ | refine zD ?_ | refine zA ?_ _)); refine blk_put (cs := #[.int .i64 t175, .int .i64 0, .int .i64 0, .int .i64 0]) ?_ 1 _ rfl; (with_reducible repeat (first | refine zN ?_ _ | refine zD ?_ | refine zA ?_ _)); refine blk_put (cs := #[.int .i64 0, .int .i64 0, .int .i64 0, .int .i64 0]) ?_ 0 _ rfl; (with_reducible repeat (first | refine zN ?_ _ | refine zD ?_ | refine zA ?_ _)); exact BK182.out) hb); have n2_ := qM (below_step (by repeat (first | (with_reducible first | exact HB.out | apply yA | apply yN | apply yD | refine yS ?_ GE174.out | refine yS ?_ GE182.out) | exact HB.out)) hb); clear BK174; clear BK182; clear HB; have BK174 := n0_; have BK182 := n1_; have HB := n2_; clear n0_ n1_ n2_; (try clear hb); (try clear hb2); (try clear hk); (try clear hi)) | ((with_reducible refine gate_dst (N := 8) rfl ?_); refine box_event ?hg (N := 8) ?hd (cs := #[.int .i64 0, .int .i64 0, .int .i64 0, .int .i64 0]) (t := 53) ?hr ?_; (case hd => rfl); (case hg => rfl); (case hr => first | (go_simp; done) | (go_simp; rfl)); intro gb190 hg w16 hbox hb; have n0_ := qM (blk_below (g := gb174) (o := .cells #[.int .i64 t170, .int .i64 t171, .int .i64 t172, .int .i64 t173] 53 (0, 0)) (by (with_reducible repeat (first | refine zN ?_ _ | refine zD ?_ | refine zA ?_ _)); exact BK174.out) hb); have n1_ := qM (blk_below (g := gb182) (o := .cells #[.int .i64 t175, .int .i64 t176, .int .i64 t177, .int .i64 t178] 53 (0, 0)) (by (with_reducible repeat (first | refine zN ?_ _ | refine zD ?_ | refine zA ?_ _)); exact BK182.out) hb); have n2_ := qM (below_step (by repeat (first | (with_reducible first | exact HB.out | apply yA | apply yN | apply yD | refine yS ?_ GE174.out | refine yS ?_ GE182.out) | exact HB.out)) hb); have n3_ := qM (hbox); have n4_ := qM ((by rw [hg]; exact (below_size (by repeat (first | (with_reducible first | exact HB.out | apply yA | apply yN | apply yD | refine yS ?_ GE174.out | refine yS ?_ GE182.out) | exact HB.out))) : w.heap.size ≤ gb190)); have n5_ := qM ((by rw [hg]; exact (below_size (by repeat (first | (with_reducible first | exact HB.out | apply yA | apply yN | apply yD | refine yS ?_ GE174.out | refine yS ?_ GE182.out) | exact HB.out))) : w.heap.size ≤ gb190)); have n6_ := qM ((by rw [hg]; exact Nat.ne_of_lt (blk_lt (g := gb174) (o := .cells #[.int .i64 t170, .int .i64 t171, .int .i64 t172, .int .i64 t173] 53 (0, 0)) (by (with_reducible repeat (first | refine zN ?_ _ | refine zD ?_ | refine zA ?_ _)); exact BK174.out)) : gb174 ≠ gb190)); have n7_ := qM ((by rw [hg]; exact Nat.ne_of_gt (blk_lt (g := gb174) (o := .cells #[.int .i64 t170, .int .i64 t171, .int .i64 t172, .int .i64 t173] 53 (0, 0)) (by (with_reducible repeat (first | refine zN ?_ _ | refine zD ?_ | refine zA ?_ _)); exact BK174.out)) : gb190 ≠ gb174)); have n8_ := qM ((by rw [hg]; exact Nat.ne_of_lt (blk_lt (g := gb182) (o := .cells #[.int .i64 t175, .int .i64 t176, .int .i64 t177, .int .i64 t178] 53 (0, 0)) (by (with_reducible repeat (first | refine zN ?_ _ | refine zD ?_ | refine zA ?_ _)); exact BK182.out)) : gb182 ≠ gb190)); have n9_ := qM ((by rw [hg]; exact Nat.ne_of_gt (blk_lt (g := gb182) (o := .cells #[.int .i64 t175, .int .i64 t176, .int .i64 t177, .int .i64 t178] 53 (0, 0)) (by (with_reducible repeat (first | refine zN ?_ _ | refine zD ?_ | refine zA ?_ _)); exact BK182.out)) : gb190 ≠ gb182)); clear BK174; clear BK182; clear HB; have BK174 := n0_; have BK182 := n1_; have HB := n2_; have BK190 := n3_; have GW190 := n4_; have GE190 := n5_; have NB174_190 := n6_; have NB190_174 := n7_; have NB182_190 := n8_; have NB190_182 := n9_; clear n0_ n1_ n2_ n3_ n4_ n5_ n6_ n7_ n8_ n9_; clear hb hbox hg; have hnb17 := NB190_174.out; have hnc17 := NB174_190.out; have hnb18 := NB190_182.out; have hnc18 := NB182_190.out; have hcz19_0 : w16.cell? ⟨gb190, 0, none⟩ = some (.int .i64 0) := (zC BK190.out 0).trans rfl; have hcz19_1 : w16.cell? ⟨gb190, 1, none⟩ = some (.int .i64 0) := (zC BK190.out 1).trans rfl; have hcz19_2 : w16.cell? ⟨gb190, 2, none⟩ = some (.int .i64 0) := (zC BK190.out 2).trans rfl; have hcz19_3 : w16.cell? ⟨gb190, 3, none⟩ = some (.int .i64 0) := (zC BK190.out 3).trans rfl; have hfz19_0 := zF BK190.out 0; have hfz19_1 := zF BK190.out 1; have hfz19_2 := zF BK190.out 2; have hfz19_3 := zF BK190.out 3))
  (try simp only [Act.put, List.setIfInBounds_toArray, List.set_cons_zero, List.set_cons_succ])
  go_cut [55] (fun v55 wc => ∃ (kq : Nat) (x55_5 : Bool), v55 = .bool x55_5 ∧ Aside0 (laws_FnOutOnce.j0 kq t181 x55_5 t170 t171 t172 t173 = some r) ∧ Aside0 (kq ≤ k) ∧ Aside0 (wc.heap[gb174]? = some (.cells #[.int .i64 t170, .int .i64 t171, .int .i64 t172, .int .i64 t173] 53 (0, 0))) ∧ Aside0 (wc.heap[gb182]? = some (.cells #[.int .i64 t175, .int .i64 t176, .int .i64 t177, .int .i64 t178] 53 (0, 0))) ∧ Aside0 (wc.heap[gb190]? = some (.cells #[.int .i64 t183, .int .i64 t184, .int .i64 t185, .int .i64 t186] 53 (0, 0))) ∧ Aside0 (Below w.heap.size w wc))
  case first =>
   have H := HC6.out
   clear HC6
   by_cases c20 : (!(t175 == t183) || (!(t176 == t184) || (!(t177 == t185) || (!(t178 == t186))))) = true
   ·rw [if_pos c20] at H
    have c20b0 : (!(t175 == t183) || (!(t176 == t184) || (!(t177 == t185) || (!(t178 == t186))))) = true := c20
    clear c20
    (first | rw [c20b0] | (simp only [i64_w, i32_w]; rw [c20b0]) | skip)
    have H' := qM H
    clear H
    have hnb21 := NB182_174.out
    have hnc21 := NB174_182.out
    have hnb22 := NB182_190.out
    have hnc22 := NB190_182.out
    have hcz23_0 : w16.cell? ⟨gb182, 0, none⟩ = some (.int .i64 t175) := (zC BK182.out 0).trans rfl
    have hcz23_1 : w16.cell? ⟨gb182, 1, none⟩ = some (.int .i64 t176) := (zC BK182.out 1).trans rfl
    have hcz23_2 : w16.cell? ⟨gb182, 2, none⟩ = some (.int .i64 t177) := (zC BK182.out 2).trans rfl
    have hcz23_3 : w16.cell? ⟨gb182, 3, none⟩ = some (.int .i64 t178) := (zC BK182.out 3).trans rfl
    have hfz23_0 := zF BK182.out 0
    have hfz23_1 := zF BK182.out 1
    have hfz23_2 := zF BK182.out 2
    have hfz23_3 := zF BK182.out 3
    have hnb24 := NB190_174.out
    have hnc24 := NB174_190.out
    have hcz25_0 : w16.cell? ⟨gb190, 0, none⟩ = some (.int .i64 0) := (zC BK190.out 0).trans rfl
    have hcz25_1 : w16.cell? ⟨gb190, 1, none⟩ = some (.int .i64 0) := (zC BK190.out 1).trans rfl
    have hcz25_2 : w16.cell? ⟨gb190, 2, none⟩ = some (.int .i64 0) := (zC BK190.out 2).trans rfl
    have hcz25_3 : w16.cell? ⟨gb190, 3, none⟩ = some (.int .i64 0) := (zC BK190.out 3).trans rfl
    have hfz25_0 := zF BK190.out 0
    have hfz25_1 := zF BK190.out 1
    have hfz25_2 := zF BK190.out 2
    have hfz25_3 := zF BK190.out 3
    go_wp2
    go_meet
    case rel => exact ⟨_, (true), (by first | rfl | (simp; done) | (simp [*]; done)), H', ⟨by first | omega | exact Nat.le_refl _⟩, ⟨by (with_reducible repeat (first | refine zN ?_ _ | refine zD ?_ | refine zA ?_ _)); refine blk_far ?_ NB174_190.out _; (with_reducible repeat (first | refine zN ?_ _ | refine zD ?_ | refine zA ?_ _)); refine blk_far ?_ NB174_190.out _; (with_reducible repeat (first | refine zN ?_ _ | refine zD ?_ | refine zA ?_ _)); refine blk_far ?_ NB174_190.out _; (with_reducible repeat (first | refine zN ?_ _ | refine zD ?_ | refine zA ?_ _)); refine blk_far ?_ NB174_190.out _; (with_reducible repeat (first | refine zN ?_ _ | refine zD ?_ | refine zA ?_ _)); exact BK174.out⟩, ⟨by (with_reducible repeat (first | refine zN ?_ _ | refine zD ?_ | refine zA ?_ _)); refine blk_far ?_ NB182_190.out _; (with_reducible repeat (first | refine zN ?_ _ | refine zD ?_ | refine zA ?_ _)); refine blk_far ?_ NB182_190.out _; (with_reducible repeat (first | refine zN ?_ _ | refine zD ?_ | refine zA ?_ _)); refine blk_far ?_ NB182_190.out _; (with_reducible repeat (first | refine zN ?_ _ | refine zD ?_ | refine zA ?_ _)); refine blk_far ?_ NB182_190.out _; (with_reducible repeat (first | refine zN ?_ _ | refine zD ?_ | refine zA ?_ _)); exact BK182.out⟩, ⟨by (with_reducible repeat (first | refine zN ?_ _ | refine zD ?_ | refine zA ?_ _)); refine blk_put (cs := #[.int .i64 t183, .int .i64 t184, .int .i64 t185, .int .i64 0]) ?_ 3 _ rfl; (with_reducible repeat (first | refine zN ?_ _ | refine zD ?_ | refine zA ?_ _)); refine blk_put (cs := #[.int .i64 t183, .int .i64 t184, .int .i64 0, .int .i64 0]) ?_ 2 _ rfl; (with_reducible repeat (first | refine zN ?_ _ | refine zD ?_ | refine zA ?_ _)); refine blk_put (cs := #[.int .i64 t183, .int .i64 0, .int .i64 0, .int .i64 0]) ?_ 1 _ rfl; (with_reducible repeat (first | refine zN ?_ _ | refine zD ?_ | refine zA ?_ _)); refine blk_put (cs := #[.int .i64 0, .int .i64 0, .int .i64 0, .int .i64 0]) ?_ 0 _ rfl; (with_reducible repeat (first | refine zN ?_ _ | refine zD ?_ | refine zA ?_ _)); exact BK190.out⟩, ⟨by repeat (first | (with_reducible first | exact HB.out | apply yA | apply yN | apply yD | refine yS ?_ GE174.out | refine yS ?_ GE182.out | refine yS ?_ GE190.out) | exact HB.out)⟩⟩
   ·rw [if_neg c20] at H
    have c20b0 : (!(t175 == t183) || (!(t176 == t184) || (!(t177 == t185) || (!(t178 == t186))))) = false := by simpa using c20
    clear c20
    (first | rw [c20b0] | (simp only [i64_w, i32_w]; rw [c20b0]) | skip)
    by_cases c26 : t179 = t187
    ·rw [if_pos c26] at H
     have c26b0 : (t179 == t187) = true := beq_iff_eq.mpr c26
     have c26b1 : (t179 != t187) = false := bne_eq_false_iff_eq.mpr c26
     clear c26
     by_cases c27 : t180 = t188
     ·rw [if_pos c27] at H
      have c27b0 : (t180 == t188) = true := beq_iff_eq.mpr c27
      have c27b1 : (t180 != t188) = false := bne_eq_false_iff_eq.mpr c27
      clear c27
      have H' := qM H
      clear H
      have hnb28 := NB182_174.out
      have hnc28 := NB174_182.out
      have hnb29 := NB182_190.out
      have hnc29 := NB190_182.out
      have hcz30_0 : w16.cell? ⟨gb182, 0, none⟩ = some (.int .i64 t175) := (zC BK182.out 0).trans rfl
      have hcz30_1 : w16.cell? ⟨gb182, 1, none⟩ = some (.int .i64 t176) := (zC BK182.out 1).trans rfl
      have hcz30_2 : w16.cell? ⟨gb182, 2, none⟩ = some (.int .i64 t177) := (zC BK182.out 2).trans rfl
      have hcz30_3 : w16.cell? ⟨gb182, 3, none⟩ = some (.int .i64 t178) := (zC BK182.out 3).trans rfl
      have hfz30_0 := zF BK182.out 0
      have hfz30_1 := zF BK182.out 1
      have hfz30_2 := zF BK182.out 2
      have hfz30_3 := zF BK182.out 3
      have hnb31 := NB190_174.out
      have hnc31 := NB174_190.out
      have hcz32_0 : w16.cell? ⟨gb190, 0, none⟩ = some (.int .i64 0) := (zC BK190.out 0).trans rfl
      have hcz32_1 : w16.cell? ⟨gb190, 1, none⟩ = some (.int .i64 0) := (zC BK190.out 1).trans rfl
      have hcz32_2 : w16.cell? ⟨gb190, 2, none⟩ = some (.int .i64 0) := (zC BK190.out 2).trans rfl
      have hcz32_3 : w16.cell? ⟨gb190, 3, none⟩ = some (.int .i64 0) := (zC BK190.out 3).trans rfl
      have hfz32_0 := zF BK190.out 0
      have hfz32_1 := zF BK190.out 1
      have hfz32_2 := zF BK190.out 2
      have hfz32_3 := zF BK190.out 3
      go_wp2
      go_meet
      case rel => exact ⟨_, ((t181 != t189)), (by first | rfl | (simp; done) | (simp [*]; done)), H', ⟨by first | omega | exact Nat.le_refl _⟩, ⟨by (with_reducible repeat (first | refine zN ?_ _ | refine zD ?_ | refine zA ?_ _)); refine blk_far ?_ NB174_190.out _; (with_reducible repeat (first | refine zN ?_ _ | refine zD ?_ | refine zA ?_ _)); refine blk_far ?_ NB174_190.out _; (with_reducible repeat (first | refine zN ?_ _ | refine zD ?_ | refine zA ?_ _)); refine blk_far ?_ NB174_190.out _; (with_reducible repeat (first | refine zN ?_ _ | refine zD ?_ | refine zA ?_ _)); refine blk_far ?_ NB174_190.out _; (with_reducible repeat (first | refine zN ?_ _ | refine zD ?_ | refine zA ?_ _)); exact BK174.out⟩, ⟨by (with_reducible repeat (first | refine zN ?_ _ | refine zD ?_ | refine zA ?_ _)); refine blk_far ?_ NB182_190.out _; (with_reducible repeat (first | refine zN ?_ _ | refine zD ?_ | refine zA ?_ _)); refine blk_far ?_ NB182_190.out _; (with_reducible repeat (first | refine zN ?_ _ | refine zD ?_ | refine zA ?_ _)); refine blk_far ?_ NB182_190.out _; (with_reducible repeat (first | refine zN ?_ _ | refine zD ?_ | refine zA ?_ _)); refine blk_far ?_ NB182_190.out _; (with_reducible repeat (first | refine zN ?_ _ | refine zD ?_ | refine zA ?_ _)); exact BK182.out⟩, ⟨by (with_reducible repeat (first | refine zN ?_ _ | refine zD ?_ | refine zA ?_ _)); refine blk_put (cs := #[.int .i64 t183, .int .i64 t184, .int .i64 t185, .int .i64 0]) ?_ 3 _ rfl; (with_reducible repeat (first | refine zN ?_ _ | refine zD ?_ | refine zA ?_ _)); refine blk_put (cs := #[.int .i64 t183, .int .i64 t184, .int .i64 0, .int .i64 0]) ?_ 2 _ rfl; (with_reducible repeat (first | refine zN ?_ _ | refine zD ?_ | refine zA ?_ _)); refine blk_put (cs := #[.int .i64 t183, .int .i64 0, .int .i64 0, .int .i64 0]) ?_ 1 _ rfl; (with_reducible repeat (first | refine zN ?_ _ | refine zD ?_ | refine zA ?_ _)); refine blk_put (cs := #[.int .i64 0, .int .i64 0, .int .i64 0, .int .i64 0]) ?_ 0 _ rfl; (with_reducible repeat (first | refine zN ?_ _ | refine zD ?_ | refine zA ?_ _)); exact BK190.out⟩, ⟨by repeat (first | (with_reducible first | exact HB.out | apply yA | apply yN | apply yD | refine yS ?_ GE174.out | refine yS ?_ GE182.out | refine yS ?_ GE190.out) | exact HB.out)⟩⟩
     ·rw [if_neg c27] at H
      have c27b0 : (t180 == t188) = false := beq_eq_false_iff_ne.mpr c27
      have c27b1 : (t180 != t188) = true := bne_iff_ne.mpr c27
      have H' := qM H
      clear H
      have hnb33 := NB182_174.out
      have hnc33 := NB174_182.out
      have hnb34 := NB182_190.out
      have hnc34 := NB190_182.out
      have hcz35_0 : w16.cell? ⟨gb182, 0, none⟩ = some (.int .i64 t175) := (zC BK182.out 0).trans rfl
      have hcz35_1 : w16.cell? ⟨gb182, 1, none⟩ = some (.int .i64 t176) := (zC BK182.out 1).trans rfl
      have hcz35_2 : w16.cell? ⟨gb182, 2, none⟩ = some (.int .i64 t177) := (zC BK182.out 2).trans rfl
      have hcz35_3 : w16.cell? ⟨gb182, 3, none⟩ = some (.int .i64 t178) := (zC BK182.out 3).trans rfl
      have hfz35_0 := zF BK182.out 0
      have hfz35_1 := zF BK182.out 1
      have hfz35_2 := zF BK182.out 2
      have hfz35_3 := zF BK182.out 3
      have hnb36 := NB190_174.out
      have hnc36 := NB174_190.out
      have hcz37_0 : w16.cell? ⟨gb190, 0, none⟩ = some (.int .i64 0) := (zC BK190.out 0).trans rfl
      have hcz37_1 : w16.cell? ⟨gb190, 1, none⟩ = some (.int .i64 0) := (zC BK190.out 1).trans rfl
      have hcz37_2 : w16.cell? ⟨gb190, 2, none⟩ = some (.int .i64 0) := (zC BK190.out 2).trans rfl
      have hcz37_3 : w16.cell? ⟨gb190, 3, none⟩ = some (.int .i64 0) := (zC BK190.out 3).trans rfl
      have hfz37_0 := zF BK190.out 0
      have hfz37_1 := zF BK190.out 1
      have hfz37_2 := zF BK190.out 2
      have hfz37_3 := zF BK190.out 3
      go_wp2
      go_meet
      case rel => exact ⟨_, (true), (by first | rfl | (simp; done) | (simp [*]; done)), H', ⟨by first | omega | exact Nat.le_refl _⟩, ⟨by (with_reducible repeat (first | refine zN ?_ _ | refine zD ?_ | refine zA ?_ _)); refine blk_far ?_ NB174_190.out _; (with_reducible repeat (first | refine zN ?_ _ | refine zD ?_ | refine zA ?_ _)); refine blk_far ?_ NB174_190.out _; (with_reducible repeat (first | refine zN ?_ _ | refine zD ?_ | refine zA ?_ _)); refine blk_far ?_ NB174_190.out _; (with_reducible repeat (first | refine zN ?_ _ | refine zD ?_ | refine zA ?_ _)); refine blk_far ?_ NB174_190.out _; (with_reducible repeat (first | refine zN ?_ _ | refine zD ?_ | refine zA ?_ _)); exact BK174.out⟩, ⟨by (with_reducible repeat (first | refine zN ?_ _ | refine zD ?_ | refine zA ?_ _)); refine blk_far ?_ NB182_190.out _; (with_reducible repeat (first | refine zN ?_ _ | refine zD ?_ | refine zA ?_ _)); refine blk_far ?_ NB182_190.out _; (with_reducible repeat (first | refine zN ?_ _ | refine zD ?_ | refine zA ?_ _)); refine blk_far ?_ NB182_190.out _; (with_reducible repeat (first | refine zN ?_ _ | refine zD ?_ | refine zA ?_ _)); refine blk_far ?_ NB182_190.out _; (with_reducible repeat (first | refine zN ?_ _ | refine zD ?_ | refine zA ?_ _)); exact BK182.out⟩, ⟨by (with_reducible repeat (first | refine zN ?_ _ | refine zD ?_ | refine zA ?_ _)); refine blk_put (cs := #[.int .i64 t183, .int .i64 t184, .int .i64 t185, .int .i64 0]) ?_ 3 _ rfl; (with_reducible repeat (first | refine zN ?_ _ | refine zD ?_ | refine zA ?_ _)); refine blk_put (cs := #[.int .i64 t183, .int .i64 t184, .int .i64 0, .int .i64 0]) ?_ 2 _ rfl; (with_reducible repeat (first | refine zN ?_ _ | refine zD ?_ | refine zA ?_ _)); refine blk_put (cs := #[.int .i64 t183, .int .i64 0, .int .i64 0, .int .i64 0]) ?_ 1 _ rfl; (with_reducible repeat (first | refine zN ?_ _ | refine zD ?_ | refine zA ?_ _)); refine blk_put (cs := #[.int .i64 0, .int .i64 0, .int .i64 0, .int .i64 0]) ?_ 0 _ rfl; (with_reducible repeat (first | refine zN ?_ _ | refine zD ?_ | refine zA ?_ _)); exact BK190.out⟩, ⟨by repeat (first | (with_reducible first | exact HB.out | apply yA | apply yN | apply yD | refine yS ?_ GE174.out | refine yS ?_ GE182.out | refine yS ?_ GE190.out) | exact HB.out)⟩⟩
    ·rw [if_neg c26] at H
     have c26b0 : (t179 == t187) = false := beq_eq_false_iff_ne.mpr c26
     have c26b1 : (t179 != t187) = true := bne_iff_ne.mpr c26
     have H' := qM H
     clear H
     have hnb38 := NB182_174.out
     have hnc38 := NB174_182.out
     have hnb39 := NB182_190.out
     have hnc39 := NB190_182.out
     have hcz40_0 : w16.cell? ⟨gb182, 0, none⟩ = some (.int .i64 t175) := (zC BK182.out 0).trans rfl
     have hcz40_1 : w16.cell? ⟨gb182, 1, none⟩ = some (.int .i64 t176) := (zC BK182.out 1).trans rfl
     have hcz40_2 : w16.cell? ⟨gb182, 2, none⟩ = some (.int .i64 t177) := (zC BK182.out 2).trans rfl
     have hcz40_3 : w16.cell? ⟨gb182, 3, none⟩ = some (.int .i64 t178) := (zC BK182.out 3).trans rfl
     have hfz40_0 := zF BK182.out 0
     have hfz40_1 := zF BK182.out 1
     have hfz40_2 := zF BK182.out 2
     have hfz40_3 := zF BK182.out 3
     have hnb41 := NB190_174.out
     have hnc41 := NB174_190.out
     have hcz42_0 : w16.cell? ⟨gb190, 0, none⟩ = some (.int .i64 0) := (zC BK190.out 0).trans rfl
     have hcz42_1 : w16.cell? ⟨gb190, 1, none⟩ = some (.int .i64 0) := (zC BK190.out 1).trans rfl
     have hcz42_2 : w16.cell? ⟨gb190, 2, none⟩ = some (.int .i64 0) := (zC BK190.out 2).trans rfl
     have hcz42_3 : w16.cell? ⟨gb190, 3, none⟩ = some (.int .i64 0) := (zC BK190.out 3).trans rfl
     have hfz42_0 := zF BK190.out 0
     have hfz42_1 := zF BK190.out 1
     have hfz42_2 := zF BK190.out 2
     have hfz42_3 := zF BK190.out 3
     go_wp2
     go_meet
     case rel => exact ⟨_, (true), (by first | rfl | (simp; done) | (simp [*]; done)), H', ⟨by first | omega | exact Nat.le_refl _⟩, ⟨by (with_reducible repeat (first | refine zN ?_ _ | refine zD ?_ | refine zA ?_ _)); refine blk_far ?_ NB174_190.out _; (with_reducible repeat (first | refine zN ?_ _ | refine zD ?_ | refine zA ?_ _)); refine blk_far ?_ NB174_190.out _; (with_reducible repeat (first | refine zN ?_ _ | refine zD ?_ | refine zA ?_ _)); refine blk_far ?_ NB174_190.out _; (with_reducible repeat (first | refine zN ?_ _ | refine zD ?_ | refine zA ?_ _)); refine blk_far ?_ NB174_190.out _; (with_reducible repeat (first | refine zN ?_ _ | refine zD ?_ | refine zA ?_ _)); exact BK174.out⟩, ⟨by (with_reducible repeat (first | refine zN ?_ _ | refine zD ?_ | refine zA ?_ _)); refine blk_far ?_ NB182_190.out _; (with_reducible repeat (first | refine zN ?_ _ | refine zD ?_ | refine zA ?_ _)); refine blk_far ?_ NB182_190.out _; (with_reducible repeat (first | refine zN ?_ _ | refine zD ?_ | refine zA ?_ _)); refine blk_far ?_ NB182_190.out _; (with_reducible repeat (first | refine zN ?_ _ | refine zD ?_ | refine zA ?_ _)); refine blk_far ?_ NB182_190.out _; (with_reducible repeat (first | refine zN ?_ _ | refine zD ?_ | refine zA ?_ _)); exact BK182.out⟩, ⟨by (with_reducible repeat (first | refine zN ?_ _ | refine zD ?_ | refine zA ?_ _)); refine blk_put (cs := #[.int .i64 t183, .int .i64 t184, .int .i64 t185, .int .i64 0]) ?_ 3 _ rfl; (with_reducible repeat (first | refine zN ?_ _ | refine zD ?_ | refine zA ?_ _)); refine blk_put (cs := #[.int .i64 t183, .int .i64 t184, .int .i64 0, .int .i64 0]) ?_ 2 _ rfl; (with_reducible repeat (first | refine zN ?_ _ | refine zD ?_ | refine zA ?_ _)); refine blk_put (cs := #[.int .i64 t183, .int .i64 0, .int .i64 0, .int .i64 0]) ?_ 1 _ rfl; (with_reducible repeat (first | refine zN ?_ _ | refine zD ?_ | refine zA ?_ _)); refine blk_put (cs := #[.int .i64 0, .int .i64 0, .int .i64 0, .int .i64 0]) ?_ 0 _ rfl; (with_reducible repeat (first | refine zN ?_ _ | refine zD ?_ | refine zA ?_ _)); exact BK190.out⟩, ⟨by repeat (first | (with_reducible first | exact HB.out | apply yA | apply yN | apply yD | refine yS ?_ GE174.out | refine yS ?_ GE182.out | refine yS ?_ GE190.out) | exact HB.out)⟩⟩
  case rest =>
   clear HC6
   try clear c1
   try clear c2
   try clear c2b0
   try clear c2b1
   try clear p2
   try clear c3
   try clear c4
   try clear c9
   try clear c12
   try clear c17
   try clear c18
   try clear c20
   try clear c20b0
   try clear c21
   try clear c22
   try clear c24
   try clear c26
   try clear c26b0
   try clear c26b1
   try clear c27
   try clear c27b0
   try clear c27b1
   try clear c28
   try clear c29
   try clear c31
   try clear c32
   try clear c33
   try clear c34
   try clear c36
   try clear c38
   try clear c39
   try clear c41
   try clear hcz13_0
   try clear hcz13_1
   try clear hcz13_2
   try clear hcz13_3
   try clear hcz14_0
   try clear hcz14_1
   try clear hcz14_2
   try clear hcz14_3
   try clear hcz19_0
   try clear hcz19_1
   try clear hcz19_2
   try clear hcz19_3
   try clear hcz23_0
   try clear hcz23_1
   try clear hcz23_2
   try clear hcz23_3
   try clear hcz25_0
   try clear hcz25_1
   try clear hcz25_2
   try clear hcz25_3
   try clear hcz30_0
   try clear hcz30_1
   try clear hcz30_2
   try clear hcz30_3
   try clear hcz32_0
   try clear hcz32_1
   try clear hcz32_2
   try clear hcz32_3
   try clear hcz35_0
   try clear hcz35_1
   try clear hcz35_2
   try clear hcz35_3
   try clear hcz37_0
   try clear hcz37_1
   try clear hcz37_2
   try clear hcz37_3
   try clear hcz40_0
   try clear hcz40_1
   try clear hcz40_2
   try clear hcz40_3
   try clear hcz42_0
   try clear hcz42_1
   try clear hcz42_2
   try clear hcz42_3
   try clear hcz9_0
   try clear hcz9_1
   try clear hcz9_2
   try clear hcz9_3
   try clear hfz13_0
   try clear hfz13_1
   try clear hfz13_2
   try clear hfz13_3
   try clear hfz14_0
   try clear hfz14_1
   try clear hfz14_2
   try clear hfz14_3
   try clear hfz19_0
   try clear hfz19_1
   try clear hfz19_2
   try clear hfz19_3
   try clear hfz23_0
   try clear hfz23_1
   try clear hfz23_2
   try clear hfz23_3
   try clear hfz25_0
   try clear hfz25_1
   try clear hfz25_2
   try clear hfz25_3
   try clear hfz30_0
   try clear hfz30_1
   try clear hfz30_2
   try clear hfz30_3
   try clear hfz32_0
   try clear hfz32_1
   try clear hfz32_2
   try clear hfz32_3
   try clear hfz35_0
   try clear hfz35_1
   try clear hfz35_2
   try clear hfz35_3
   try clear hfz37_0
   try clear hfz37_1
   try clear hfz37_2
   try clear hfz37_3
   try clear hfz40_0
   try clear hfz40_1
   try clear hfz40_2
   try clear hfz40_3
   try clear hfz42_0
   try clear hfz42_1
   try clear hfz42_2
   try clear hfz42_3
   try clear hfz9_0
   try clear hfz9_1
   try clear hfz9_2
   try clear hfz9_3
   obtain ⟨kq, x55_5, rfl, HA, HJ5, BK174, BK182, BK190, HB⟩ := hcut
   cases kq with
   | zero => exact absurd HA.out (by simp [laws_FnOutOnce.j0])
   | succ kj5 =>
    have H := HA.out
    clear HA
    simp only [laws_FnOutOnce.j0] at H
    by_cases c43 : x55_5 = true
    ·subst c43
     have H1 : (some false) = some r := by rw [if_pos rfl] at H; exact H
     clear H
     have H := H1
     clear H1
     obtain rfl := Option.some.inj H
     go_wp2
     go_ret
     exact ⟨by first | rfl | (simp [errW_none, errW_some] <;> rfl) | (simp [*, errW_none, errW_some] <;> rfl), by repeat (first | (with_reducible first | exact HB.out | apply yA | apply yN | apply yD | refine yS ?_ GE174.out | refine yS ?_ GE182.out | refine yS ?_ GE190.out) | exact HB.out)⟩
    ·replace c43 := Bool.eq_false_iff.mpr c43
     subst c43
     have H1 : ((spec_OutOk.f t170 t171 t172 t173).bind fun t191 => (if t191 = true then (laws_FnOutOnce.l0 kj5 (wrap64 ((wrap64 ((wrap64 (200 - t172)) * 16)) - t173)) (-1) 0 t170 t171 t172 t173) else (if t181 = true then (some false) else ((impl_OutOk.f 1 0 0 0).bind fun t192 => (some t192))))) = some r := by rw [if_neg (show ¬ (false = true) by decide)] at H; exact H
     clear H
     have H := H1
     clear H1
     replace H := Option.bind_eq_some_iff.mp H
     obtain ⟨t191, A440, H⟩ := H
     replace H : (if t191 = true then (laws_FnOutOnce.l0 kj5 (wrap64 ((wrap64 ((wrap64 (200 - t172)) * 16)) - t173)) (-1) 0 t170 t171 t172 t173) else (if t181 = true then (some false) else ((impl_OutOk.f 1 0 0 0).bind fun t192 => (some t192)))) = some r := H
     have A44 := qM A440
     clear A440
     by_cases c45 : t191 = true
     ·subst c45
      have H1 : (laws_FnOutOnce.l0 kj5 (wrap64 ((wrap64 ((wrap64 (200 - t172)) * 16)) - t173)) (-1) 0 t170 t171 t172 t173) = some r := by rw [if_pos rfl] at H; exact H
      clear H
      have H := H1
      clear H1
      have H' := qM H
      clear H
      have hnb46 := NB174_182.out
      have hnc46 := NB182_174.out
      have hnb47 := NB174_190.out
      have hnc47 := NB190_174.out
      have hcz48_0 : wc.cell? ⟨gb174, 0, none⟩ = some (.int .i64 t170) := (zC BK174.out 0).trans rfl
      have hcz48_1 : wc.cell? ⟨gb174, 1, none⟩ = some (.int .i64 t171) := (zC BK174.out 1).trans rfl
      have hcz48_2 : wc.cell? ⟨gb174, 2, none⟩ = some (.int .i64 t172) := (zC BK174.out 2).trans rfl
      have hcz48_3 : wc.cell? ⟨gb174, 3, none⟩ = some (.int .i64 t173) := (zC BK174.out 3).trans rfl
      have hfz48_0 := zF BK174.out 0
      have hfz48_1 := zF BK174.out 1
      have hfz48_2 := zF BK174.out 2
      have hfz48_3 := zF BK174.out 3
      go_wp2_with (first | ((with_reducible refine gate_callee (f := 35) rfl ?_); refine goesL_ (some 57) rfl rfl Try.func35 (by kernel_rfl) rfl #[.agg #[.int .i64 t170, .int .i64 t171, .int .i64 t172, .int .i64 t173]] rfl (by (try simp only [List.map_toArray, List.map_cons, List.map_nil]); first | done | rfl | (simp only [List.length_drop, List.length_take]; rfl)) ?_; (with_reducible refine (spec_OutOk.calls t170 t171 t172 t173 true _ A44.out).mono ?_); rintro e w49 ⟨rfl, hb⟩; refine ⟨_, rfl, ?_⟩; have n0_ := qM (blk_below (g := gb174) (o := .cells #[.int .i64 t170, .int .i64 t171, .int .i64 t172, .int .i64 t173] 53 (0, 0)) (by (with_reducible repeat (first | refine zN ?_ _ | refine zD ?_ | refine zA ?_ _)); exact BK174.out) hb); have n1_ := qM (blk_below (g := gb182) (o := .cells #[.int .i64 t175, .int .i64 t176, .int .i64 t177, .int .i64 t178] 53 (0, 0)) (by (with_reducible repeat (first | refine zN ?_ _ | refine zD ?_ | refine zA ?_ _)); exact BK182.out) hb); have n2_ := qM (blk_below (g := gb190) (o := .cells #[.int .i64 t183, .int .i64 t184, .int .i64 t185, .int .i64 t186] 53 (0, 0)) (by (with_reducible repeat (first | refine zN ?_ _ | refine zD ?_ | refine zA ?_ _)); exact BK190.out) hb); have n3_ := qM (below_step (by repeat (first | (with_reducible first | exact HB.out | apply yA | apply yN | apply yD | refine yS ?_ GE174.out | refine yS ?_ GE182.out | refine yS ?_ GE190.out) | exact HB.out)) hb); clear BK174; clear BK182; clear BK190; clear HB; have BK174 := n0_; have BK182 := n1_; have BK190 := n2_; have HB := n3_; clear n0_ n1_ n2_ n3_; (try clear hb); (try clear hb2); (try clear hk); (try clear hi); have hcz50_0 : w49.cell? ⟨gb174, 0, none⟩ = some (.int .i64 t170) := (zC BK174.out 0).trans rfl; have hcz50_1 : w49.cell? ⟨gb174, 1, none⟩ = some (.int .i64 t171) := (zC BK174.out 1).trans rfl; have hcz50_2 : w49.cell? ⟨gb174, 2, none⟩ = some (.int .i64 t172) := (zC BK174.out 2).trans rfl; have hcz50_3 : w49.cell? ⟨gb174, 3, none⟩ = some (.int .i64 t173) := (zC BK174.out 3).trans rfl; have hfz50_0 := zF BK174.out 0; have hfz50_1 := zF BK174.out 1; have hfz50_2 := zF BK174.out 2; have hfz50_3 := zF BK174.out 3))
      go_loopg [13, 14] kj5 (fun kq v13 v14 w' => ∃ (x13_2 : Int) (x14_2 : Int) (x175000_2 : Int) (x175001_2 : Int) (x175002_2 : Int) (x175003_2 : Int), v13 = .int .i64 x13_2 ∧ v14 = .int .i64 x14_2 ∧ Aside0 (laws_FnOutOnce.l0 kq (wrap64 ((wrap64 ((wrap64 (200 - t172)) * 16)) - t173)) x13_2 x14_2 x175000_2 x175001_2 x175002_2 x175003_2 = some r) ∧ Aside0 (kq ≤ kj5) ∧ Aside0 (w'.heap[gb174]? = some (.cells #[.int .i64 x175000_2, .int .i64 x175001_2, .int .i64 x175002_2, .int .i64 x175003_2] 53 (0, 0))) ∧ Aside0 (w'.heap[gb182]? = some (.cells #[.int .i64 t175, .int .i64 t176, .int .i64 t177, .int .i64 t178] 53 (0, 0))) ∧ Aside0 (w'.heap[gb190]? = some (.cells #[.int .i64 t183, .int .i64 t184, .int .i64 t185, .int .i64 t186] 53 (0, 0))) ∧ Aside0 (Below w.heap.size w w'))
      case atStart => exact ⟨((-1)), (0), (t170), (t171), (t172), (t173), (by first | rfl | (simp; done) | (simp [*]; done)), (by first | rfl | (simp; done) | (simp [*]; done)), H', ⟨Nat.le_refl _⟩, ⟨by (with_reducible repeat (first | refine zN ?_ _ | refine zD ?_ | refine zA ?_ _)); exact BK174.out⟩, ⟨by (with_reducible repeat (first | refine zN ?_ _ | refine zD ?_ | refine zA ?_ _)); exact BK182.out⟩, ⟨by (with_reducible repeat (first | refine zN ?_ _ | refine zD ?_ | refine zA ?_ _)); exact BK190.out⟩, ⟨by repeat (first | (with_reducible first | exact HB.out | apply yA | apply yN | apply yD | refine yS ?_ GE174.out | refine yS ?_ GE182.out | refine yS ?_ GE190.out) | exact HB.out)⟩⟩
      case round =>
       clear H'
       try clear c1
       try clear c2
       try clear c2b0
       try clear c2b1
       try clear p2
       try clear c3
       try clear c4
       try clear p6
       try clear c9
       try clear c12
       try clear c17
       try clear c18
       try clear c20
       try clear c20b0
       try clear c21
       try clear c22
       try clear c24
       try clear c26
       try clear c26b0
       try clear c26b1
       try clear c27
       try clear c27b0
       try clear c27b1
       try clear c28
       try clear c29
       try clear c31
       try clear c32
       try clear c33
       try clear c34
       try clear c35
       try clear c36
       try clear c38
       try clear c39
       try clear c41
       try clear c43
       try clear c45
       try clear c46
       try clear c47
       try clear hcz13_0
       try clear hcz13_1
       try clear hcz13_2
       try clear hcz13_3
       try clear hcz14_0
       try clear hcz14_1
       try clear hcz14_2
       try clear hcz14_3
       try clear hcz19_0
       try clear hcz19_1
       try clear hcz19_2
       try clear hcz19_3
       try clear hcz23_0
       try clear hcz23_1
       try clear hcz23_2
       try clear hcz23_3
       try clear hcz25_0
       try clear hcz25_1
       try clear hcz25_2
       try clear hcz25_3
       try clear hcz30_0
       try clear hcz30_1
       try clear hcz30_2
       try clear hcz30_3
       try clear hcz32_0
       try clear hcz32_1
       try clear hcz32_2
       try clear hcz32_3
       try clear hcz35_0
       try clear hcz35_1
       try clear hcz35_2
       try clear hcz35_3
       try clear hcz37_0
       try clear hcz37_1
       try clear hcz37_2
       try clear hcz37_3
       try clear hcz40_0
       try clear hcz40_1
       try clear hcz40_2
       try clear hcz40_3
       try clear hcz42_0
       try clear hcz42_1
       try clear hcz42_2
       try clear hcz42_3
       try clear hcz48_0
       try clear hcz48_1
       try clear hcz48_2
       try clear hcz48_3
       try clear hcz50_0
       try clear hcz50_1
       try clear hcz50_2
       try clear hcz50_3
       try clear hcz9_0
       try clear hcz9_1
       try clear hcz9_2
       try clear hcz9_3
       try clear hfz13_0
       try clear hfz13_1
       try clear hfz13_2
       try clear hfz13_3
       try clear hfz14_0
       try clear hfz14_1
       try clear hfz14_2
       try clear hfz14_3
       try clear hfz19_0
       try clear hfz19_1
       try clear hfz19_2
       try clear hfz19_3
       try clear hfz23_0
       try clear hfz23_1
       try clear hfz23_2
       try clear hfz23_3
       try clear hfz25_0
       try clear hfz25_1
       try clear hfz25_2
       try clear hfz25_3
       try clear hfz30_0
       try clear hfz30_1
       try clear hfz30_2
       try clear hfz30_3
       try clear hfz32_0
       try clear hfz32_1
       try clear hfz32_2
       try clear hfz32_3
       try clear hfz35_0
       try clear hfz35_1
       try clear hfz35_2
       try clear hfz35_3
       try clear hfz37_0
       try clear hfz37_1
       try clear hfz37_2
       try clear hfz37_3
       try clear hfz40_0
       try clear hfz40_1
       try clear hfz40_2
       try clear hfz40_3
       try clear hfz42_0
       try clear hfz42_1
       try clear hfz42_2
       try clear hfz42_3
       try clear hfz48_0
       try clear hfz48_1
       try clear hfz48_2
       try clear hfz48_3
       try clear hfz50_0
       try clear hfz50_1
       try clear hfz50_2
       try clear hfz50_3
       try clear hfz9_0
       try clear hfz9_1
       try clear hfz9_2
       try clear hfz9_3
       try clear p2
       obtain ⟨x13_2, x14_2, x175000_2, x175001_2, x175002_2, x175003_2, rfl, rfl, HA, HK2, BK174, BK182, BK190, HB⟩ := hrel
       cases gk with
       | zero => exact absurd HA.out (by simp [laws_FnOutOnce.l0])
       | succ k2 =>
        have H := HA.out
        clear HA
        simp only [laws_FnOutOnce.l0] at H
        by_cases c51 : x14_2 < 40
        ·rw [if_pos c51] at H
         have c51b0 : decide (x14_2 < 40) = true := decide_eq_true c51
         clear c51
         replace H := Option.bind_eq_some_iff.mp H
         obtain ⟨⟨t194, t195, t196, t197, t198, t199, t200⟩, A520, H⟩ := H
         replace H : (if (t200 != (decide (x14_2 < (wrap64 ((wrap64 ((wrap64 (200 - t172)) * 16)) - t173))))) = true then (laws_FnOutOnce.j2 k2 (wrap64 ((wrap64 ((wrap64 (200 - t172)) * 16)) - t173)) x13_2 x14_2 t198 t199 t200 true t194 t195 t196 t197) else (if t195 = x175001_2 then (laws_FnOutOnce.j2 k2 (wrap64 ((wrap64 ((wrap64 (200 - t172)) * 16)) - t173)) x13_2 x14_2 t198 t199 t200 (t194 != x175000_2) t194 t195 t196 t197) else (laws_FnOutOnce.j2 k2 (wrap64 ((wrap64 ((wrap64 (200 - t172)) * 16)) - t173)) x13_2 x14_2 t198 t199 t200 true t194 t195 t196 t197))) = some r := H
         have A52 := qM A520
         clear A520
         have HC53 := qM H
         clear H
         have hnb54 := NB174_182.out
         have hnc54 := NB182_174.out
         have hnb55 := NB174_190.out
         have hnc55 := NB190_174.out
         have hcz56_0 : wr.cell? ⟨gb174, 0, none⟩ = some (.int .i64 x175000_2) := (zC BK174.out 0).trans rfl
         have hcz56_1 : wr.cell? ⟨gb174, 1, none⟩ = some (.int .i64 x175001_2) := (zC BK174.out 1).trans rfl
         have hcz56_2 : wr.cell? ⟨gb174, 2, none⟩ = some (.int .i64 x175002_2) := (zC BK174.out 2).trans rfl
         have hcz56_3 : wr.cell? ⟨gb174, 3, none⟩ = some (.int .i64 x175003_2) := (zC BK174.out 3).trans rfl
         have hfz56_0 := zF BK174.out 0
         have hfz56_1 := zF BK174.out 1
         have hfz56_2 := zF BK174.out 2
         have hfz56_3 := zF BK174.out 3
         go_upto_region 16 with (first | ((with_reducible refine gate_callee (f := 33) rfl ?_); refine goesL_ (some 78) rfl rfl Try.func33 (by kernel_rfl) rfl #[.agg #[.int .i64 x175000_2, .int .i64 x175001_2, .int .i64 x175002_2, .int .i64 x175003_2]] rfl (by (try simp only [List.map_toArray, List.map_cons, List.map_nil]); first | done | rfl | (simp only [List.length_drop, List.length_take]; rfl)) ?_; (with_reducible refine (impl_OutNext.calls x175000_2 x175001_2 x175002_2 x175003_2 t194 t195 t196 t197 t198 t199 t200 _ A52.out).mono ?_); rintro e w57 ⟨rfl, hb⟩; refine ⟨_, rfl, ?_⟩; have n0_ := qM (blk_below (g := gb174) (o := .cells #[.int .i64 x175000_2, .int .i64 x175001_2, .int .i64 x175002_2, .int .i64 x175003_2] 53 (0, 0)) (by (with_reducible repeat (first | refine zN ?_ _ | refine zD ?_ | refine zA ?_ _)); exact BK174.out) hb); have n1_ := qM (blk_below (g := gb182) (o := .cells #[.int .i64 t175, .int .i64 t176, .int .i64 t177, .int .i64 t178] 53 (0, 0)) (by (with_reducible repeat (first | refine zN ?_ _ | refine zD ?_ | refine zA ?_ _)); exact BK182.out) hb); have n2_ := qM (blk_below (g := gb190) (o := .cells #[.int .i64 t183, .int .i64 t184, .int .i64 t185, .int .i64 t186] 53 (0, 0)) (by (with_reducible repeat (first | refine zN ?_ _ | refine zD ?_ | refine zA ?_ _)); exact BK190.out) hb); have n3_ := qM (below_step (by repeat (first | (with_reducible first | exact HB.out | apply yA | apply yN | apply yD | refine yS ?_ GE174.out | refine yS ?_ GE182.out | refine yS ?_ GE190.out) | exact HB.out)) hb); clear BK174; clear BK182; clear BK190; clear HB; have BK174 := n0_; have BK182 := n1_; have BK190 := n2_; have HB := n3_; clear n0_ n1_ n2_ n3_; (try clear hb); (try clear hb2); (try clear hk); (try clear hi)) | ((with_reducible refine gate_dst (N := 15) rfl ?_); refine box_event ?hg (N := 15) ?hd (cs := #[.int .i64 0, .int .i64 0, .int .i64 0, .int .i64 0]) (t := 53) ?hr ?_; (case hd => rfl); (case hg => rfl); (case hr => first | (go_simp; done) | (go_simp; rfl)); intro gb201 hg w58 hbox hb; have n0_ := qM (blk_below (g := gb174) (o := .cells #[.int .i64 x175000_2, .int .i64 x175001_2, .int .i64 x175002_2, .int .i64 x175003_2] 53 (0, 0)) (by (with_reducible repeat (first | refine zN ?_ _ | refine zD ?_ | refine zA ?_ _)); exact BK174.out) hb); have n1_ := qM (blk_below (g := gb182) (o := .cells #[.int .i64 t175, .int .i64 t176, .int .i64 t177, .int .i64 t178] 53 (0, 0)) (by (with_reducible repeat (first | refine zN ?_ _ | refine zD ?_ | refine zA ?_ _)); exact BK182.out) hb); have n2_ := qM (blk_below (g := gb190) (o := .cells #[.int .i64 t183, .int .i64 t184, .int .i64 t185, .int .i64 t186] 53 (0, 0)) (by (with_reducible repeat (first | refine zN ?_ _ | refine zD ?_ | refine zA ?_ _)); exact BK190.out) hb); have n3_ := qM (below_step (by repeat (first | (with_reducible first | exact HB.out | apply yA | apply yN | apply yD | refine yS ?_ GE174.out | refine yS ?_ GE182.out | refine yS ?_ GE190.out) | exact HB.out)) hb); have n4_ := qM (hbox); have n5_ := qM ((by rw [hg]; exact (below_size (by repeat (first | (with_reducible first | exact HB.out | apply yA | apply yN | apply yD | refine yS ?_ GE174.out | refine yS ?_ GE182.out | refine yS ?_ GE190.out) | exact HB.out))) : w.heap.size ≤ gb201)); have n6_ := qM ((by rw [hg]; exact (below_size (by repeat (first | (with_reducible first | exact HB.out | apply yA | apply yN | apply yD | refine yS ?_ GE174.out | refine yS ?_ GE182.out | refine yS ?_ GE190.out) | exact HB.out))) : w.heap.size ≤ gb201)); have n7_ := qM ((by rw [hg]; exact Nat.ne_of_lt (blk_lt (g := gb174) (o := .cells #[.int .i64 x175000_2, .int .i64 x175001_2, .int .i64 x175002_2, .int .i64 x175003_2] 53 (0, 0)) (by (with_reducible repeat (first | refine zN ?_ _ | refine zD ?_ | refine zA ?_ _)); exact BK174.out)) : gb174 ≠ gb201)); have n8_ := qM ((by rw [hg]; exact Nat.ne_of_gt (blk_lt (g := gb174) (o := .cells #[.int .i64 x175000_2, .int .i64 x175001_2, .int .i64 x175002_2, .int .i64 x175003_2] 53 (0, 0)) (by (with_reducible repeat (first | refine zN ?_ _ | refine zD ?_ | refine zA ?_ _)); exact BK174.out)) : gb201 ≠ gb174)); have n9_ := qM ((by rw [hg]; exact Nat.ne_of_lt (blk_lt (g := gb182) (o := .cells #[.int .i64 t175, .int .i64 t176, .int .i64 t177, .int .i64 t178] 53 (0, 0)) (by (with_reducible repeat (first | refine zN ?_ _ | refine zD ?_ | refine zA ?_ _)); exact BK182.out)) : gb182 ≠ gb201)); have n10_ := qM ((by rw [hg]; exact Nat.ne_of_gt (blk_lt (g := gb182) (o := .cells #[.int .i64 t175, .int .i64 t176, .int .i64 t177, .int .i64 t178] 53 (0, 0)) (by (with_reducible repeat (first | refine zN ?_ _ | refine zD ?_ | refine zA ?_ _)); exact BK182.out)) : gb201 ≠ gb182)); have n11_ := qM ((by rw [hg]; exact Nat.ne_of_lt (blk_lt (g := gb190) (o := .cells #[.int .i64 t183, .int .i64 t184, .int .i64 t185, .int .i64 t186] 53 (0, 0)) (by (with_reducible repeat (first | refine zN ?_ _ | refine zD ?_ | refine zA ?_ _)); exact BK190.out)) : gb190 ≠ gb201)); have n12_ := qM ((by rw [hg]; exact Nat.ne_of_gt (blk_lt (g := gb190) (o := .cells #[.int .i64 t183, .int .i64 t184, .int .i64 t185, .int .i64 t186] 53 (0, 0)) (by (with_reducible repeat (first | refine zN ?_ _ | refine zD ?_ | refine zA ?_ _)); exact BK190.out)) : gb201 ≠ gb190)); clear BK174; clear BK182; clear BK190; clear HB; have BK174 := n0_; have BK182 := n1_; have BK190 := n2_; have HB := n3_; have BK201 := n4_; have GW201 := n5_; have GE201 := n6_; have NB174_201 := n7_; have NB201_174 := n8_; have NB182_201 := n9_; have NB201_182 := n10_; have NB190_201 := n11_; have NB201_190 := n12_; clear n0_ n1_ n2_ n3_ n4_ n5_ n6_ n7_ n8_ n9_ n10_ n11_ n12_; clear hb hbox hg; have hnb59 := NB201_174.out; have hnc59 := NB174_201.out; have hnb60 := NB201_182.out; have hnc60 := NB182_201.out; have hnb61 := NB201_190.out; have hnc61 := NB190_201.out; have hcz62_0 : w58.cell? ⟨gb201, 0, none⟩ = some (.int .i64 0) := (zC BK201.out 0).trans rfl; have hcz62_1 : w58.cell? ⟨gb201, 1, none⟩ = some (.int .i64 0) := (zC BK201.out 1).trans rfl; have hcz62_2 : w58.cell? ⟨gb201, 2, none⟩ = some (.int .i64 0) := (zC BK201.out 2).trans rfl; have hcz62_3 : w58.cell? ⟨gb201, 3, none⟩ = some (.int .i64 0) := (zC BK201.out 3).trans rfl; have hfz62_0 := zF BK201.out 0; have hfz62_1 := zF BK201.out 1; have hfz62_2 := zF BK201.out 2; have hfz62_3 := zF BK201.out 3))
         (try simp only [Act.put, List.setIfInBounds_toArray, List.set_cons_zero, List.set_cons_succ])
         go_cut [101] (fun v101 wc => ∃ (kq : Nat) (x101_52 : Bool), v101 = .bool x101_52 ∧ Aside0 (laws_FnOutOnce.j2 kq (wrap64 ((wrap64 ((wrap64 (200 - t172)) * 16)) - t173)) x13_2 x14_2 t198 t199 t200 x101_52 t194 t195 t196 t197 = some r) ∧ Aside0 (kq ≤ k2) ∧ Aside0 (wc.heap[gb174]? = some (.cells #[.int .i64 x175000_2, .int .i64 x175001_2, .int .i64 x175002_2, .int .i64 x175003_2] 53 (0, 0))) ∧ Aside0 (wc.heap[gb182]? = some (.cells #[.int .i64 t175, .int .i64 t176, .int .i64 t177, .int .i64 t178] 53 (0, 0))) ∧ Aside0 (wc.heap[gb190]? = some (.cells #[.int .i64 t183, .int .i64 t184, .int .i64 t185, .int .i64 t186] 53 (0, 0))) ∧ Aside0 (wc.heap[gb201]? = some (.cells #[.int .i64 t194, .int .i64 t195, .int .i64 t196, .int .i64 t197] 53 (0, 0))) ∧ Aside0 (Below w.heap.size w wc))
         case first =>
          have H := HC53.out
          clear HC53
          by_cases c63 : (t200 != (decide (x14_2 < (wrap64 ((wrap64 ((wrap64 (200 - t172)) * 16)) - t173))))) = true
          ·rw [if_pos c63] at H
           have c63b0 : (t200 != (decide (x14_2 < (wrap64 ((wrap64 ((wrap64 (200 - t172)) * 16)) - t173))))) = true := c63
           (try (have c63b1 : decide (t200 = (decide (x14_2 < (wrap64 ((wrap64 ((wrap64 (200 - t172)) * 16)) - t173))))) = false := by simpa using c63))
           (try (have c63b2 : (t200 == (decide (x14_2 < (wrap64 ((wrap64 ((wrap64 (200 - t172)) * 16)) - t173))))) = false := by simpa using c63))
           (try (have c63b3 : ¬ (t200 = (decide (x14_2 < (wrap64 ((wrap64 ((wrap64 (200 - t172)) * 16)) - t173))))) := by simpa using c63))
           clear c63
           (first | rw [c63b0] | (simp only [i64_w, i32_w]; rw [c63b0]) | skip)
           have H' := qM H
           clear H
           go_wp2
           go_meet
           case rel => exact ⟨_, (true), (by first | rfl | (simp; done) | (simp [*]; done)), H', ⟨by have := HJ5.out; have := HK2.out; first | omega | exact Nat.le_refl _⟩, ⟨by (with_reducible repeat (first | refine zN ?_ _ | refine zD ?_ | refine zA ?_ _)); refine blk_far ?_ NB174_201.out _; (with_reducible repeat (first | refine zN ?_ _ | refine zD ?_ | refine zA ?_ _)); refine blk_far ?_ NB174_201.out _; (with_reducible repeat (first | refine zN ?_ _ | refine zD ?_ | refine zA ?_ _)); refine blk_far ?_ NB174_201.out _; (with_reducible repeat (first | refine zN ?_ _ | refine zD ?_ | refine zA ?_ _)); refine blk_far ?_ NB174_201.out _; (with_reducible repeat (first | refine zN ?_ _ | refine zD ?_ | refine zA ?_ _)); exact BK174.out⟩, ⟨by (with_reducible repeat (first | refine zN ?_ _ | refine zD ?_ | refine zA ?_ _)); refine blk_far ?_ NB182_201.out _; (with_reducible repeat (first | refine zN ?_ _ | refine zD ?_ | refine zA ?_ _)); refine blk_far ?_ NB182_201.out _; (with_reducible repeat (first | refine zN ?_ _ | refine zD ?_ | refine zA ?_ _)); refine blk_far ?_ NB182_201.out _; (with_reducible repeat (first | refine zN ?_ _ | refine zD ?_ | refine zA ?_ _)); refine blk_far ?_ NB182_201.out _; (with_reducible repeat (first | refine zN ?_ _ | refine zD ?_ | refine zA ?_ _)); exact BK182.out⟩, ⟨by (with_reducible repeat (first | refine zN ?_ _ | refine zD ?_ | refine zA ?_ _)); refine blk_far ?_ NB190_201.out _; (with_reducible repeat (first | refine zN ?_ _ | refine zD ?_ | refine zA ?_ _)); refine blk_far ?_ NB190_201.out _; (with_reducible repeat (first | refine zN ?_ _ | refine zD ?_ | refine zA ?_ _)); refine blk_far ?_ NB190_201.out _; (with_reducible repeat (first | refine zN ?_ _ | refine zD ?_ | refine zA ?_ _)); refine blk_far ?_ NB190_201.out _; (with_reducible repeat (first | refine zN ?_ _ | refine zD ?_ | refine zA ?_ _)); exact BK190.out⟩, ⟨by (with_reducible repeat (first | refine zN ?_ _ | refine zD ?_ | refine zA ?_ _)); refine blk_put (cs := #[.int .i64 t194, .int .i64 t195, .int .i64 t196, .int .i64 0]) ?_ 3 _ rfl; (with_reducible repeat (first | refine zN ?_ _ | refine zD ?_ | refine zA ?_ _)); refine blk_put (cs := #[.int .i64 t194, .int .i64 t195, .int .i64 0, .int .i64 0]) ?_ 2 _ rfl; (with_reducible repeat (first | refine zN ?_ _ | refine zD ?_ | refine zA ?_ _)); refine blk_put (cs := #[.int .i64 t194, .int .i64 0, .int .i64 0, .int .i64 0]) ?_ 1 _ rfl; (with_reducible repeat (first | refine zN ?_ _ | refine zD ?_ | refine zA ?_ _)); refine blk_put (cs := #[.int .i64 0, .int .i64 0, .int .i64 0, .int .i64 0]) ?_ 0 _ rfl; (with_reducible repeat (first | refine zN ?_ _ | refine zD ?_ | refine zA ?_ _)); exact BK201.out⟩, ⟨by repeat (first | (with_reducible first | exact HB.out | apply yA | apply yN | apply yD | refine yS ?_ GE174.out | refine yS ?_ GE182.out | refine yS ?_ GE190.out | refine yS ?_ GE201.out) | exact HB.out)⟩⟩
          ·rw [if_neg c63] at H
           have c63b0 : (t200 != (decide (x14_2 < (wrap64 ((wrap64 ((wrap64 (200 - t172)) * 16)) - t173))))) = false := by simpa using c63
           (try (have c63b1 : decide (t200 = (decide (x14_2 < (wrap64 ((wrap64 ((wrap64 (200 - t172)) * 16)) - t173))))) = true := by simpa using c63))
           (try (have c63b2 : (t200 == (decide (x14_2 < (wrap64 ((wrap64 ((wrap64 (200 - t172)) * 16)) - t173))))) = true := by simpa using c63))
           clear c63
           (first | rw [c63b0] | (simp only [i64_w, i32_w]; rw [c63b0]) | skip)
           by_cases c64 : t195 = x175001_2
           ·rw [if_pos c64] at H
            have c64b0 : (t195 == x175001_2) = true := beq_iff_eq.mpr c64
            have c64b1 : (t195 != x175001_2) = false := bne_eq_false_iff_eq.mpr c64
            clear c64
            have H' := qM H
            clear H
            have hnb65 := NB201_174.out
            have hnc65 := NB174_201.out
            have hnb66 := NB201_182.out
            have hnc66 := NB182_201.out
            have hnb67 := NB201_190.out
            have hnc67 := NB190_201.out
            have hcz68_0 : w58.cell? ⟨gb201, 0, none⟩ = some (.int .i64 0) := (zC BK201.out 0).trans rfl
            have hcz68_1 : w58.cell? ⟨gb201, 1, none⟩ = some (.int .i64 0) := (zC BK201.out 1).trans rfl
            have hcz68_2 : w58.cell? ⟨gb201, 2, none⟩ = some (.int .i64 0) := (zC BK201.out 2).trans rfl
            have hcz68_3 : w58.cell? ⟨gb201, 3, none⟩ = some (.int .i64 0) := (zC BK201.out 3).trans rfl
            have hfz68_0 := zF BK201.out 0
            have hfz68_1 := zF BK201.out 1
            have hfz68_2 := zF BK201.out 2
            have hfz68_3 := zF BK201.out 3
            have hnb69 := NB174_182.out
            have hnc69 := NB182_174.out
            have hnb70 := NB174_190.out
            have hnc70 := NB190_174.out
            have hcz71_0 : w58.cell? ⟨gb174, 0, none⟩ = some (.int .i64 x175000_2) := (zC BK174.out 0).trans rfl
            have hcz71_1 : w58.cell? ⟨gb174, 1, none⟩ = some (.int .i64 x175001_2) := (zC BK174.out 1).trans rfl
            have hcz71_2 : w58.cell? ⟨gb174, 2, none⟩ = some (.int .i64 x175002_2) := (zC BK174.out 2).trans rfl
            have hcz71_3 : w58.cell? ⟨gb174, 3, none⟩ = some (.int .i64 x175003_2) := (zC BK174.out 3).trans rfl
            have hfz71_0 := zF BK174.out 0
            have hfz71_1 := zF BK174.out 1
            have hfz71_2 := zF BK174.out 2
            have hfz71_3 := zF BK174.out 3
            go_wp2
            go_meet
            case rel => exact ⟨_, ((t194 != x175000_2)), (by first | rfl | (simp; done) | (simp [*]; done)), H', ⟨by have := HJ5.out; have := HK2.out; first | omega | exact Nat.le_refl _⟩, ⟨by (with_reducible repeat (first | refine zN ?_ _ | refine zD ?_ | refine zA ?_ _)); refine blk_far ?_ NB174_201.out _; (with_reducible repeat (first | refine zN ?_ _ | refine zD ?_ | refine zA ?_ _)); refine blk_far ?_ NB174_201.out _; (with_reducible repeat (first | refine zN ?_ _ | refine zD ?_ | refine zA ?_ _)); refine blk_far ?_ NB174_201.out _; (with_reducible repeat (first | refine zN ?_ _ | refine zD ?_ | refine zA ?_ _)); refine blk_far ?_ NB174_201.out _; (with_reducible repeat (first | refine zN ?_ _ | refine zD ?_ | refine zA ?_ _)); exact BK174.out⟩, ⟨by (with_reducible repeat (first | refine zN ?_ _ | refine zD ?_ | refine zA ?_ _)); refine blk_far ?_ NB182_201.out _; (with_reducible repeat (first | refine zN ?_ _ | refine zD ?_ | refine zA ?_ _)); refine blk_far ?_ NB182_201.out _; (with_reducible repeat (first | refine zN ?_ _ | refine zD ?_ | refine zA ?_ _)); refine blk_far ?_ NB182_201.out _; (with_reducible repeat (first | refine zN ?_ _ | refine zD ?_ | refine zA ?_ _)); refine blk_far ?_ NB182_201.out _; (with_reducible repeat (first | refine zN ?_ _ | refine zD ?_ | refine zA ?_ _)); exact BK182.out⟩, ⟨by (with_reducible repeat (first | refine zN ?_ _ | refine zD ?_ | refine zA ?_ _)); refine blk_far ?_ NB190_201.out _; (with_reducible repeat (first | refine zN ?_ _ | refine zD ?_ | refine zA ?_ _)); refine blk_far ?_ NB190_201.out _; (with_reducible repeat (first | refine zN ?_ _ | refine zD ?_ | refine zA ?_ _)); refine blk_far ?_ NB190_201.out _; (with_reducible repeat (first | refine zN ?_ _ | refine zD ?_ | refine zA ?_ _)); refine blk_far ?_ NB190_201.out _; (with_reducible repeat (first | refine zN ?_ _ | refine zD ?_ | refine zA ?_ _)); exact BK190.out⟩, ⟨by (with_reducible repeat (first | refine zN ?_ _ | refine zD ?_ | refine zA ?_ _)); refine blk_put (cs := #[.int .i64 t194, .int .i64 t195, .int .i64 t196, .int .i64 0]) ?_ 3 _ rfl; (with_reducible repeat (first | refine zN ?_ _ | refine zD ?_ | refine zA ?_ _)); refine blk_put (cs := #[.int .i64 t194, .int .i64 t195, .int .i64 0, .int .i64 0]) ?_ 2 _ rfl; (with_reducible repeat (first | refine zN ?_ _ | refine zD ?_ | refine zA ?_ _)); refine blk_put (cs := #[.int .i64 t194, .int .i64 0, .int .i64 0, .int .i64 0]) ?_ 1 _ rfl; (with_reducible repeat (first | refine zN ?_ _ | refine zD ?_ | refine zA ?_ _)); refine blk_put (cs := #[.int .i64 0, .int .i64 0, .int .i64 0, .int .i64 0]) ?_ 0 _ rfl; (with_reducible repeat (first | refine zN ?_ _ | refine zD ?_ | refine zA ?_ _)); exact BK201.out⟩, ⟨by repeat (first | (with_reducible first | exact HB.out | apply yA | apply yN | apply yD | refine yS ?_ GE174.out | refine yS ?_ GE182.out | refine yS ?_ GE190.out | refine yS ?_ GE201.out) | exact HB.out)⟩⟩
           ·rw [if_neg c64] at H
            have c64b0 : (t195 == x175001_2) = false := beq_eq_false_iff_ne.mpr c64
            have c64b1 : (t195 != x175001_2) = true := bne_iff_ne.mpr c64
            have H' := qM H
            clear H
            have hnb72 := NB201_174.out
            have hnc72 := NB174_201.out
            have hnb73 := NB201_182.out
            have hnc73 := NB182_201.out
            have hnb74 := NB201_190.out
            have hnc74 := NB190_201.out
            have hcz75_0 : w58.cell? ⟨gb201, 0, none⟩ = some (.int .i64 0) := (zC BK201.out 0).trans rfl
            have hcz75_1 : w58.cell? ⟨gb201, 1, none⟩ = some (.int .i64 0) := (zC BK201.out 1).trans rfl
            have hcz75_2 : w58.cell? ⟨gb201, 2, none⟩ = some (.int .i64 0) := (zC BK201.out 2).trans rfl
            have hcz75_3 : w58.cell? ⟨gb201, 3, none⟩ = some (.int .i64 0) := (zC BK201.out 3).trans rfl
            have hfz75_0 := zF BK201.out 0
            have hfz75_1 := zF BK201.out 1
            have hfz75_2 := zF BK201.out 2
            have hfz75_3 := zF BK201.out 3
            have hnb76 := NB174_182.out
            have hnc76 := NB182_174.out
            have hnb77 := NB174_190.out
            have hnc77 := NB190_174.out
            have hcz78_0 : w58.cell? ⟨gb174, 0, none⟩ = some (.int .i64 x175000_2) := (zC BK174.out 0).trans rfl
            have hcz78_1 : w58.cell? ⟨gb174, 1, none⟩ = some (.int .i64 x175001_2) := (zC BK174.out 1).trans rfl
            have hcz78_2 : w58.cell? ⟨gb174, 2, none⟩ = some (.int .i64 x175002_2) := (zC BK174.out 2).trans rfl
            have hcz78_3 : w58.cell? ⟨gb174, 3, none⟩ = some (.int .i64 x175003_2) := (zC BK174.out 3).trans rfl
            have hfz78_0 := zF BK174.out 0
            have hfz78_1 := zF BK174.out 1
            have hfz78_2 := zF BK174.out 2
            have hfz78_3 := zF BK174.out 3
            go_wp2
            go_meet
            case rel => exact ⟨_, (true), (by first | rfl | (simp; done) | (simp [*]; done)), H', ⟨by have := HJ5.out; have := HK2.out; first | omega | exact Nat.le_refl _⟩, ⟨by (with_reducible repeat (first | refine zN ?_ _ | refine zD ?_ | refine zA ?_ _)); refine blk_far ?_ NB174_201.out _; (with_reducible repeat (first | refine zN ?_ _ | refine zD ?_ | refine zA ?_ _)); refine blk_far ?_ NB174_201.out _; (with_reducible repeat (first | refine zN ?_ _ | refine zD ?_ | refine zA ?_ _)); refine blk_far ?_ NB174_201.out _; (with_reducible repeat (first | refine zN ?_ _ | refine zD ?_ | refine zA ?_ _)); refine blk_far ?_ NB174_201.out _; (with_reducible repeat (first | refine zN ?_ _ | refine zD ?_ | refine zA ?_ _)); exact BK174.out⟩, ⟨by (with_reducible repeat (first | refine zN ?_ _ | refine zD ?_ | refine zA ?_ _)); refine blk_far ?_ NB182_201.out _; (with_reducible repeat (first | refine zN ?_ _ | refine zD ?_ | refine zA ?_ _)); refine blk_far ?_ NB182_201.out _; (with_reducible repeat (first | refine zN ?_ _ | refine zD ?_ | refine zA ?_ _)); refine blk_far ?_ NB182_201.out _; (with_reducible repeat (first | refine zN ?_ _ | refine zD ?_ | refine zA ?_ _)); refine blk_far ?_ NB182_201.out _; (with_reducible repeat (first | refine zN ?_ _ | refine zD ?_ | refine zA ?_ _)); exact BK182.out⟩, ⟨by (with_reducible repeat (first | refine zN ?_ _ | refine zD ?_ | refine zA ?_ _)); refine blk_far ?_ NB190_201.out _; (with_reducible repeat (first | refine zN ?_ _ | refine zD ?_ | refine zA ?_ _)); refine blk_far ?_ NB190_201.out _; (with_reducible repeat (first | refine zN ?_ _ | refine zD ?_ | refine zA ?_ _)); refine blk_far ?_ NB190_201.out _; (with_reducible repeat (first | refine zN ?_ _ | refine zD ?_ | refine zA ?_ _)); refine blk_far ?_ NB190_201.out _; (with_reducible repeat (first | refine zN ?_ _ | refine zD ?_ | refine zA ?_ _)); exact BK190.out⟩, ⟨by (with_reducible repeat (first | refine zN ?_ _ | refine zD ?_ | refine zA ?_ _)); refine blk_put (cs := #[.int .i64 t194, .int .i64 t195, .int .i64 t196, .int .i64 0]) ?_ 3 _ rfl; (with_reducible repeat (first | refine zN ?_ _ | refine zD ?_ | refine zA ?_ _)); refine blk_put (cs := #[.int .i64 t194, .int .i64 t195, .int .i64 0, .int .i64 0]) ?_ 2 _ rfl; (with_reducible repeat (first | refine zN ?_ _ | refine zD ?_ | refine zA ?_ _)); refine blk_put (cs := #[.int .i64 t194, .int .i64 0, .int .i64 0, .int .i64 0]) ?_ 1 _ rfl; (with_reducible repeat (first | refine zN ?_ _ | refine zD ?_ | refine zA ?_ _)); refine blk_put (cs := #[.int .i64 0, .int .i64 0, .int .i64 0, .int .i64 0]) ?_ 0 _ rfl; (with_reducible repeat (first | refine zN ?_ _ | refine zD ?_ | refine zA ?_ _)); exact BK201.out⟩, ⟨by repeat (first | (with_reducible first | exact HB.out | apply yA | apply yN | apply yD | refine yS ?_ GE174.out | refine yS ?_ GE182.out | refine yS ?_ GE190.out | refine yS ?_ GE201.out) | exact HB.out)⟩⟩
         case rest =>
          clear HC53
          try clear c1
          try clear c2
          try clear c2b0
          try clear c2b1
          try clear p2
          try clear c3
          try clear c4
          try clear c5
          try clear c6
          try clear p6
          try clear c7
          try clear c9
          try clear c12
          try clear c17
          try clear c18
          try clear c20
          try clear c20b0
          try clear c21
          try clear c22
          try clear c24
          try clear c26
          try clear c26b0
          try clear c26b1
          try clear c27
          try clear c27b0
          try clear c27b1
          try clear c28
          try clear c29
          try clear c31
          try clear c32
          try clear c33
          try clear c34
          try clear c35
          try clear c36
          try clear c38
          try clear c39
          try clear c41
          try clear c43
          try clear c45
          try clear c46
          try clear c47
          try clear c51
          try clear c51b0
          try clear c54
          try clear c55
          try clear c59
          try clear c60
          try clear c61
          try clear c63
          try clear c63b0
          try clear c63b1
          try clear c63b2
          try clear c64
          try clear c64b0
          try clear c64b1
          try clear p64
          try clear c65
          try clear c66
          try clear c67
          try clear c69
          try clear c70
          try clear c72
          try clear c73
          try clear c74
          try clear c76
          try clear c77
          try clear hcz13_0
          try clear hcz13_1
          try clear hcz13_2
          try clear hcz13_3
          try clear hcz14_0
          try clear hcz14_1
          try clear hcz14_2
          try clear hcz14_3
          try clear hcz19_0
          try clear hcz19_1
          try clear hcz19_2
          try clear hcz19_3
          try clear hcz23_0
          try clear hcz23_1
          try clear hcz23_2
          try clear hcz23_3
          try clear hcz25_0
          try clear hcz25_1
          try clear hcz25_2
          try clear hcz25_3
          try clear hcz30_0
          try clear hcz30_1
          try clear hcz30_2
          try clear hcz30_3
          try clear hcz32_0
          try clear hcz32_1
          try clear hcz32_2
          try clear hcz32_3
          try clear hcz35_0
          try clear hcz35_1
          try clear hcz35_2
          try clear hcz35_3
          try clear hcz37_0
          try clear hcz37_1
          try clear hcz37_2
          try clear hcz37_3
          try clear hcz40_0
          try clear hcz40_1
          try clear hcz40_2
          try clear hcz40_3
          try clear hcz42_0
          try clear hcz42_1
          try clear hcz42_2
          try clear hcz42_3
          try clear hcz48_0
          try clear hcz48_1
          try clear hcz48_2
          try clear hcz48_3
          try clear hcz50_0
          try clear hcz50_1
          try clear hcz50_2
          try clear hcz50_3
          try clear hcz56_0
          try clear hcz56_1
          try clear hcz56_2
          try clear hcz56_3
          try clear hcz62_0
          try clear hcz62_1
          try clear hcz62_2
          try clear hcz62_3
          try clear hcz68_0
          try clear hcz68_1
          try clear hcz68_2
          try clear hcz68_3
          try clear hcz71_0
          try clear hcz71_1
          try clear hcz71_2
          try clear hcz71_3
          try clear hcz75_0
          try clear hcz75_1
          try clear hcz75_2
          try clear hcz75_3
          try clear hcz78_0
          try clear hcz78_1
          try clear hcz78_2
          try clear hcz78_3
          try clear hcz9_0
          try clear hcz9_1
          try clear hcz9_2
          try clear hcz9_3
          try clear hfz13_0
          try clear hfz13_1
          try clear hfz13_2
          try clear hfz13_3
          try clear hfz14_0
          try clear hfz14_1
          try clear hfz14_2
          try clear hfz14_3
          try clear hfz19_0
          try clear hfz19_1
          try clear hfz19_2
          try clear hfz19_3
          try clear hfz23_0
          try clear hfz23_1
          try clear hfz23_2
          try clear hfz23_3
          try clear hfz25_0
          try clear hfz25_1
          try clear hfz25_2
          try clear hfz25_3
          try clear hfz30_0
          try clear hfz30_1
          try clear hfz30_2
          try clear hfz30_3
          try clear hfz32_0
          try clear hfz32_1
          try clear hfz32_2
          try clear hfz32_3
          try clear hfz35_0
          try clear hfz35_1
          try clear hfz35_2
          try clear hfz35_3
          try clear hfz37_0
          try clear hfz37_1
          try clear hfz37_2
          try clear hfz37_3
          try clear hfz40_0
          try clear hfz40_1
          try clear hfz40_2
          try clear hfz40_3
          try clear hfz42_0
          try clear hfz42_1
          try clear hfz42_2
          try clear hfz42_3
          try clear hfz48_0
          try clear hfz48_1
          try clear hfz48_2
          try clear hfz48_3
          try clear hfz50_0
          try clear hfz50_1
          try clear hfz50_2
          try clear hfz50_3
          try clear hfz56_0
          try clear hfz56_1
          try clear hfz56_2
          try clear hfz56_3
          try clear hfz62_0
          try clear hfz62_1
          try clear hfz62_2
          try clear hfz62_3
          try clear hfz68_0
          try clear hfz68_1
          try clear hfz68_2
          try clear hfz68_3
          try clear hfz71_0
          try clear hfz71_1
          try clear hfz71_2
          try clear hfz71_3
          try clear hfz75_0
          try clear hfz75_1
          try clear hfz75_2
          try clear hfz75_3
          try clear hfz78_0
          try clear hfz78_1
          try clear hfz78_2
          try clear hfz78_3
          try clear hfz9_0
          try clear hfz9_1
          try clear hfz9_2
          try clear hfz9_3
          try clear p2
          try clear p6
          obtain ⟨kq, x101_52, rfl, HA, HJ52, BK174, BK182, BK190, BK201, HB⟩ := hcut
          cases kq with
          | zero => exact absurd HA.out (by simp [laws_FnOutOnce.j2])
          | succ kj52 =>
           have H := HA.out
           clear HA
           simp only [laws_FnOutOnce.j2] at H
           by_cases c79 : x101_52 = true
           ·subst c79
            have H1 : (some false) = some r := by rw [if_pos rfl] at H; exact H
            clear H
            have H := H1
            clear H1
            obtain rfl := Option.some.inj H
            go_wp2
            go_ret
            exact ⟨by first | rfl | (simp [errW_none, errW_some] <;> rfl) | (simp [*, errW_none, errW_some] <;> rfl), by repeat (first | (with_reducible first | exact HB.out | apply yA | apply yN | apply yD | refine yS ?_ GE174.out | refine yS ?_ GE182.out | refine yS ?_ GE190.out | refine yS ?_ GE201.out) | exact HB.out)⟩
           ·replace c79 := Bool.eq_false_iff.mpr c79
            subst c79
            have H1 : (if t200 = true then (laws_FnOutOnce.j3 kj52 (wrap64 ((wrap64 ((wrap64 (200 - t172)) * 16)) - t173)) x13_2 x14_2 t198 t199 t200 (decide ((wrap64 ((wrap64 (t198 * 100)) + t199)) ≤ x13_2)) t194 t195 t196 t197) else (laws_FnOutOnce.j3 kj52 (wrap64 ((wrap64 ((wrap64 (200 - t172)) * 16)) - t173)) x13_2 x14_2 t198 t199 t200 false t194 t195 t196 t197)) = some r := by rw [if_neg (show ¬ (false = true) by decide)] at H; exact H
            clear H
            have H := H1
            clear H1
            have HC80 := qM H
            clear H
            go_upto_region 18 with (fail)
            go_cut [110] (fun v110 wc => ∃ (kq : Nat) (x110_79 : Bool), v110 = .bool x110_79 ∧ Aside0 (laws_FnOutOnce.j3 kq (wrap64 ((wrap64 ((wrap64 (200 - t172)) * 16)) - t173)) x13_2 x14_2 t198 t199 t200 x110_79 t194 t195 t196 t197 = some r) ∧ Aside0 (kq ≤ kj52) ∧ Aside0 (wc.heap[gb174]? = some (.cells #[.int .i64 x175000_2, .int .i64 x175001_2, .int .i64 x175002_2, .int .i64 x175003_2] 53 (0, 0))) ∧ Aside0 (wc.heap[gb182]? = some (.cells #[.int .i64 t175, .int .i64 t176, .int .i64 t177, .int .i64 t178] 53 (0, 0))) ∧ Aside0 (wc.heap[gb190]? = some (.cells #[.int .i64 t183, .int .i64 t184, .int .i64 t185, .int .i64 t186] 53 (0, 0))) ∧ Aside0 (wc.heap[gb201]? = some (.cells #[.int .i64 t194, .int .i64 t195, .int .i64 t196, .int .i64 t197] 53 (0, 0))) ∧ Aside0 (Below w.heap.size w wc))
            case first =>
             have H := HC80.out
             clear HC80
             by_cases c81 : t200 = true
             ·subst c81
              have H1 : (laws_FnOutOnce.j3 kj52 (wrap64 ((wrap64 ((wrap64 (200 - t172)) * 16)) - t173)) x13_2 x14_2 t198 t199 true (decide ((wrap64 ((wrap64 (t198 * 100)) + t199)) ≤ x13_2)) t194 t195 t196 t197) = some r := by rw [if_pos rfl] at H; exact H
              clear H
              have H := H1
              clear H1
              have H' := qM H
              clear H
              go_wp2
              go_meet
              case rel => exact ⟨_, (decide ((wrap64 ((wrap64 (t198 * 100)) + t199)) ≤ x13_2)), (by first | rfl | (simp; done) | (simp [*]; done)), H', ⟨by have := HJ5.out; have := HK2.out; have := HJ52.out; first | omega | exact Nat.le_refl _⟩, ⟨by (with_reducible repeat (first | refine zN ?_ _ | refine zD ?_ | refine zA ?_ _)); exact BK174.out⟩, ⟨by (with_reducible repeat (first | refine zN ?_ _ | refine zD ?_ | refine zA ?_ _)); exact BK182.out⟩, ⟨by (with_reducible repeat (first | refine zN ?_ _ | refine zD ?_ | refine zA ?_ _)); exact BK190.out⟩, ⟨by (with_reducible repeat (first | refine zN ?_ _ | refine zD ?_ | refine zA ?_ _)); exact BK201.out⟩, ⟨by repeat (first | (with_reducible first | exact HB.out | apply yA | apply yN | apply yD | refine yS ?_ GE174.out | refine yS ?_ GE182.out | refine yS ?_ GE190.out | refine yS ?_ GE201.out) | exact HB.out)⟩⟩
             ·replace c81 := Bool.eq_false_iff.mpr c81
              subst c81
              have H1 : (laws_FnOutOnce.j3 kj52 (wrap64 ((wrap64 ((wrap64 (200 - t172)) * 16)) - t173)) x13_2 x14_2 t198 t199 false false t194 t195 t196 t197) = some r := by rw [if_neg (show ¬ (false = true) by decide)] at H; exact H
              clear H
              have H := H1
              clear H1
              have H' := qM H
              clear H
              go_wp2
              go_meet
              case rel => exact ⟨_, (false), (by first | rfl | (simp; done) | (simp [*]; done)), H', ⟨by have := HJ5.out; have := HK2.out; have := HJ52.out; first | omega | exact Nat.le_refl _⟩, ⟨by (with_reducible repeat (first | refine zN ?_ _ | refine zD ?_ | refine zA ?_ _)); exact BK174.out⟩, ⟨by (with_reducible repeat (first | refine zN ?_ _ | refine zD ?_ | refine zA ?_ _)); exact BK182.out⟩, ⟨by (with_reducible repeat (first | refine zN ?_ _ | refine zD ?_ | refine zA ?_ _)); exact BK190.out⟩, ⟨by (with_reducible repeat (first | refine zN ?_ _ | refine zD ?_ | refine zA ?_ _)); exact BK201.out⟩, ⟨by repeat (first | (with_reducible first | exact HB.out | apply yA | apply yN | apply yD | refine yS ?_ GE174.out | refine yS ?_ GE182.out | refine yS ?_ GE190.out | refine yS ?_ GE201.out) | exact HB.out)⟩⟩
            case rest =>
             clear HC80
             try clear c1
             try clear c2
             try clear c2b0
             try clear c2b1
             try clear p2
             try clear c3
             try clear c4
             try clear c5
             try clear c6
             try clear p6
             try clear c7
             try clear c8
             try clear c9
             try clear c12
             try clear c17
             try clear c18
             try clear c20
             try clear c20b0
             try clear c21
             try clear c22
             try clear c24
             try clear c26
             try clear c26b0
             try clear c26b1
             try clear c27
             try clear c27b0
             try clear c27b1
             try clear c28
             try clear c29
             try clear c31
             try clear c32
             try clear c33
             try clear c34
             try clear c35
             try clear c36
             try clear c38
             try clear c39
             try clear c41
             try clear c43
             try clear c45
             try clear c46
             try clear c47
             try clear c51
             try clear c51b0
             try clear c54
             try clear c55
             try clear c59
             try clear c60
             try clear c61
             try clear c63
             try clear c63b0
             try clear c63b1
             try clear c63b2
             try clear c64
             try clear c64b0
             try clear c64b1
             try clear p64
             try clear c65
             try clear c66
             try clear c67
             try clear c69
             try clear c70
             try clear c72
             try clear c73
             try clear c74
             try clear c76
             try clear c77
             try clear c79
             try clear c81
             try clear hcz13_0
             try clear hcz13_1
             try clear hcz13_2
             try clear hcz13_3
             try clear hcz14_0
             try clear hcz14_1
             try clear hcz14_2
             try clear hcz14_3
             try clear hcz19_0
             try clear hcz19_1
             try clear hcz19_2
             try clear hcz19_3
             try clear hcz23_0
             try clear hcz23_1
             try clear hcz23_2
             try clear hcz23_3
             try clear hcz25_0
             try clear hcz25_1
             try clear hcz25_2
             try clear hcz25_3
             try clear hcz30_0
             try clear hcz30_1
             try clear hcz30_2
             try clear hcz30_3
             try clear hcz32_0
             try clear hcz32_1
             try clear hcz32_2
             try clear hcz32_3
             try clear hcz35_0
             try clear hcz35_1
             try clear hcz35_2
             try clear hcz35_3
             try clear hcz37_0
             try clear hcz37_1
             try clear hcz37_2
             try clear hcz37_3
             try clear hcz40_0
             try clear hcz40_1
             try clear hcz40_2
             try clear hcz40_3
             try clear hcz42_0
             try clear hcz42_1
             try clear hcz42_2
             try clear hcz42_3
             try clear hcz48_0
             try clear hcz48_1
             try clear hcz48_2
             try clear hcz48_3
             try clear hcz50_0
             try clear hcz50_1
             try clear hcz50_2
             try clear hcz50_3
             try clear hcz56_0
             try clear hcz56_1
             try clear hcz56_2
             try clear hcz56_3
             try clear hcz62_0
             try clear hcz62_1
             try clear hcz62_2
             try clear hcz62_3
             try clear hcz68_0
             try clear hcz68_1
             try clear hcz68_2
             try clear hcz68_3
             try clear hcz71_0
             try clear hcz71_1
             try clear hcz71_2
             try clear hcz71_3
             try clear hcz75_0
             try clear hcz75_1
             try clear hcz75_2
             try clear hcz75_3
             try clear hcz78_0
             try clear hcz78_1
             try clear hcz78_2
             try clear hcz78_3
             try clear hcz9_0
             try clear hcz9_1
             try clear hcz9_2
             try clear hcz9_3
             try clear hfz13_0
             try clear hfz13_1
             try clear hfz13_2
             try clear hfz13_3
             try clear hfz14_0
             try clear hfz14_1
             try clear hfz14_2
             try clear hfz14_3
             try clear hfz19_0
             try clear hfz19_1
             try clear hfz19_2
             try clear hfz19_3
             try clear hfz23_0
             try clear hfz23_1
             try clear hfz23_2
             try clear hfz23_3
             try clear hfz25_0
             try clear hfz25_1
             try clear hfz25_2
             try clear hfz25_3
             try clear hfz30_0
             try clear hfz30_1
             try clear hfz30_2
             try clear hfz30_3
             try clear hfz32_0
             try clear hfz32_1
             try clear hfz32_2
             try clear hfz32_3
             try clear hfz35_0
             try clear hfz35_1
             try clear hfz35_2
             try clear hfz35_3
             try clear hfz37_0
             try clear hfz37_1
             try clear hfz37_2
             try clear hfz37_3
             try clear hfz40_0
             try clear hfz40_1
             try clear hfz40_2
             try clear hfz40_3
             try clear hfz42_0
             try clear hfz42_1
             try clear hfz42_2
             try clear hfz42_3
             try clear hfz48_0
             try clear hfz48_1
             try clear hfz48_2
             try clear hfz48_3
             try clear hfz50_0
             try clear hfz50_1
             try clear hfz50_2
             try clear hfz50_3
             try clear hfz56_0
             try clear hfz56_1
             try clear hfz56_2
             try clear hfz56_3
             try clear hfz62_0
             try clear hfz62_1
             try clear hfz62_2
             try clear hfz62_3
             try clear hfz68_0
             try clear hfz68_1
             try clear hfz68_2
             try clear hfz68_3
             try clear hfz71_0
             try clear hfz71_1
             try clear hfz71_2
             try clear hfz71_3
             try clear hfz75_0
             try clear hfz75_1
             try clear hfz75_2
             try clear hfz75_3
             try clear hfz78_0
             try clear hfz78_1
             try clear hfz78_2
             try clear hfz78_3
             try clear hfz9_0
             try clear hfz9_1
             try clear hfz9_2
             try clear hfz9_3
             try clear p2
             try clear p6
             try clear p64
             obtain ⟨kq, x110_79, rfl, HA, HJ79, BK174, BK182, BK190, BK201, HB⟩ := hcut
             cases kq with
             | zero => exact absurd HA.out (by simp [laws_FnOutOnce.j3])
             | succ kj79 =>
              have H := HA.out
              clear HA
              simp only [laws_FnOutOnce.j3] at H
              by_cases c82 : x110_79 = true
              ·subst c82
               have H1 : (some false) = some r := by rw [if_pos rfl] at H; exact H
               clear H
               have H := H1
               clear H1
               obtain rfl := Option.some.inj H
               go_wp2
               go_ret
               exact ⟨by first | rfl | (simp [errW_none, errW_some] <;> rfl) | (simp [*, errW_none, errW_some] <;> rfl), by repeat (first | (with_reducible first | exact HB.out | apply yA | apply yN | apply yD | refine yS ?_ GE174.out | refine yS ?_ GE182.out | refine yS ?_ GE190.out | refine yS ?_ GE201.out) | exact HB.out)⟩
              ·replace c82 := Bool.eq_false_iff.mpr c82
               subst c82
               have H1 : (if t200 = true then (laws_FnOutOnce.l0 kj79 (wrap64 ((wrap64 ((wrap64 (200 - t172)) * 16)) - t173)) (wrap64 ((wrap64 (t198 * 100)) + t199)) (wrap64 (x14_2 + 1)) t194 t195 t196 t197) else (laws_FnOutOnce.l0 kj79 (wrap64 ((wrap64 ((wrap64 (200 - t172)) * 16)) - t173)) x13_2 (wrap64 (x14_2 + 1)) t194 t195 t196 t197)) = some r := by rw [if_neg (show ¬ (false = true) by decide)] at H; exact H
               clear H
               have H := H1
               clear H1
               by_cases c83 : t200 = true
               ·subst c83
                have H1 : (laws_FnOutOnce.l0 kj79 (wrap64 ((wrap64 ((wrap64 (200 - t172)) * 16)) - t173)) (wrap64 ((wrap64 (t198 * 100)) + t199)) (wrap64 (x14_2 + 1)) t194 t195 t196 t197) = some r := by rw [if_pos rfl] at H; exact H
                clear H
                have H := H1
                clear H1
                have H' := qM H
                clear H
                have hnb84 := NB201_174.out
                have hnc84 := NB174_201.out
                have hnb85 := NB201_182.out
                have hnc85 := NB182_201.out
                have hnb86 := NB201_190.out
                have hnc86 := NB190_201.out
                have hcz87_0 : wc.cell? ⟨gb201, 0, none⟩ = some (.int .i64 t194) := (zC BK201.out 0).trans rfl
                have hcz87_1 : wc.cell? ⟨gb201, 1, none⟩ = some (.int .i64 t195) := (zC BK201.out 1).trans rfl
                have hcz87_2 : wc.cell? ⟨gb201, 2, none⟩ = some (.int .i64 t196) := (zC BK201.out 2).trans rfl
                have hcz87_3 : wc.cell? ⟨gb201, 3, none⟩ = some (.int .i64 t197) := (zC BK201.out 3).trans rfl
                have hfz87_0 := zF BK201.out 0
                have hfz87_1 := zF BK201.out 1
                have hfz87_2 := zF BK201.out 2
                have hfz87_3 := zF BK201.out 3
                have hnb88 := NB174_182.out
                have hnc88 := NB182_174.out
                have hnb89 := NB174_190.out
                have hnc89 := NB190_174.out
                have hcz90_0 : wc.cell? ⟨gb174, 0, none⟩ = some (.int .i64 x175000_2) := (zC BK174.out 0).trans rfl
                have hcz90_1 : wc.cell? ⟨gb174, 1, none⟩ = some (.int .i64 x175001_2) := (zC BK174.out 1).trans rfl
                have hcz90_2 : wc.cell? ⟨gb174, 2, none⟩ = some (.int .i64 x175002_2) := (zC BK174.out 2).trans rfl
                have hcz90_3 : wc.cell? ⟨gb174, 3, none⟩ = some (.int .i64 x175003_2) := (zC BK174.out 3).trans rfl
                have hfz90_0 := zF BK174.out 0
                have hfz90_1 := zF BK174.out 1
                have hfz90_2 := zF BK174.out 2
                have hfz90_3 := zF BK174.out 3
                go_wp2
                go_roundg kj79
                case measure => have := HJ5.out; have := HK2.out; have := HJ52.out; have := HJ79.out; omega
                case rel => exact ⟨(wrap64 ((wrap64 (t198 * 100)) + t199)), (wrap64 (x14_2 + 1)), (t194), (t195), (t196), (t197), (by first | rfl | (simp; done) | (simp [*]; done)), (by first | rfl | (simp; done) | (simp [*]; done)), H', ⟨by have := HJ5.out; have := HK2.out; have := HJ52.out; have := HJ79.out; omega⟩, ⟨by (with_reducible repeat (first | refine zN ?_ _ | refine zD ?_ | refine zA ?_ _)); refine blk_put (cs := #[.int .i64 t194, .int .i64 t195, .int .i64 t196, .int .i64 x175003_2]) ?_ 3 _ rfl; (with_reducible repeat (first | refine zN ?_ _ | refine zD ?_ | refine zA ?_ _)); refine blk_put (cs := #[.int .i64 t194, .int .i64 t195, .int .i64 x175002_2, .int .i64 x175003_2]) ?_ 2 _ rfl; (with_reducible repeat (first | refine zN ?_ _ | refine zD ?_ | refine zA ?_ _)); refine blk_put (cs := #[.int .i64 t194, .int .i64 x175001_2, .int .i64 x175002_2, .int .i64 x175003_2]) ?_ 1 _ rfl; (with_reducible repeat (first | refine zN ?_ _ | refine zD ?_ | refine zA ?_ _)); refine blk_put (cs := #[.int .i64 x175000_2, .int .i64 x175001_2, .int .i64 x175002_2, .int .i64 x175003_2]) ?_ 0 _ rfl; (with_reducible repeat (first | refine zN ?_ _ | refine zD ?_ | refine zA ?_ _)); exact BK174.out⟩, ⟨by (with_reducible repeat (first | refine zN ?_ _ | refine zD ?_ | refine zA ?_ _)); refine blk_far ?_ NB182_174.out _; (with_reducible repeat (first | refine zN ?_ _ | refine zD ?_ | refine zA ?_ _)); refine blk_far ?_ NB182_174.out _; (with_reducible repeat (first | refine zN ?_ _ | refine zD ?_ | refine zA ?_ _)); refine blk_far ?_ NB182_174.out _; (with_reducible repeat (first | refine zN ?_ _ | refine zD ?_ | refine zA ?_ _)); refine blk_far ?_ NB182_174.out _; (with_reducible repeat (first | refine zN ?_ _ | refine zD ?_ | refine zA ?_ _)); exact BK182.out⟩, ⟨by (with_reducible repeat (first | refine zN ?_ _ | refine zD ?_ | refine zA ?_ _)); refine blk_far ?_ NB190_174.out _; (with_reducible repeat (first | refine zN ?_ _ | refine zD ?_ | refine zA ?_ _)); refine blk_far ?_ NB190_174.out _; (with_reducible repeat (first | refine zN ?_ _ | refine zD ?_ | refine zA ?_ _)); refine blk_far ?_ NB190_174.out _; (with_reducible repeat (first | refine zN ?_ _ | refine zD ?_ | refine zA ?_ _)); refine blk_far ?_ NB190_174.out _; (with_reducible repeat (first | refine zN ?_ _ | refine zD ?_ | refine zA ?_ _)); exact BK190.out⟩, ⟨by repeat (first | (with_reducible first | exact HB.out | apply yA | apply yN | apply yD | refine yS ?_ GE174.out | refine yS ?_ GE182.out | refine yS ?_ GE190.out | refine yS ?_ GE201.out) | exact HB.out)⟩⟩
               ·replace c83 := Bool.eq_false_iff.mpr c83
                subst c83
                have H1 : (laws_FnOutOnce.l0 kj79 (wrap64 ((wrap64 ((wrap64 (200 - t172)) * 16)) - t173)) x13_2 (wrap64 (x14_2 + 1)) t194 t195 t196 t197) = some r := by rw [if_neg (show ¬ (false = true) by decide)] at H; exact H
                clear H
                have H := H1
                clear H1
                have H' := qM H
                clear H
                have hnb91 := NB201_174.out
                have hnc91 := NB174_201.out
                have hnb92 := NB201_182.out
                have hnc92 := NB182_201.out
                have hnb93 := NB201_190.out
                have hnc93 := NB190_201.out
                have hcz94_0 : wc.cell? ⟨gb201, 0, none⟩ = some (.int .i64 t194) := (zC BK201.out 0).trans rfl
                have hcz94_1 : wc.cell? ⟨gb201, 1, none⟩ = some (.int .i64 t195) := (zC BK201.out 1).trans rfl
                have hcz94_2 : wc.cell? ⟨gb201, 2, none⟩ = some (.int .i64 t196) := (zC BK201.out 2).trans rfl
                have hcz94_3 : wc.cell? ⟨gb201, 3, none⟩ = some (.int .i64 t197) := (zC BK201.out 3).trans rfl
                have hfz94_0 := zF BK201.out 0
                have hfz94_1 := zF BK201.out 1
                have hfz94_2 := zF BK201.out 2
                have hfz94_3 := zF BK201.out 3
                have hnb95 := NB174_182.out
                have hnc95 := NB182_174.out
                have hnb96 := NB174_190.out
                have hnc96 := NB190_174.out
                have hcz97_0 : wc.cell? ⟨gb174, 0, none⟩ = some (.int .i64 x175000_2) := (zC BK174.out 0).trans rfl
                have hcz97_1 : wc.cell? ⟨gb174, 1, none⟩ = some (.int .i64 x175001_2) := (zC BK174.out 1).trans rfl
                have hcz97_2 : wc.cell? ⟨gb174, 2, none⟩ = some (.int .i64 x175002_2) := (zC BK174.out 2).trans rfl
                have hcz97_3 : wc.cell? ⟨gb174, 3, none⟩ = some (.int .i64 x175003_2) := (zC BK174.out 3).trans rfl
                have hfz97_0 := zF BK174.out 0
                have hfz97_1 := zF BK174.out 1
                have hfz97_2 := zF BK174.out 2
                have hfz97_3 := zF BK174.out 3
                go_wp2
                go_roundg kj79
                case measure => have := HJ5.out; have := HK2.out; have := HJ52.out; have := HJ79.out; omega
                case rel => exact ⟨(x13_2), (wrap64 (x14_2 + 1)), (t194), (t195), (t196), (t197), (by first | rfl | (simp; done) | (simp [*]; done)), (by first | rfl | (simp; done) | (simp [*]; done)), H', ⟨by have := HJ5.out; have := HK2.out; have := HJ52.out; have := HJ79.out; omega⟩, ⟨by (with_reducible repeat (first | refine zN ?_ _ | refine zD ?_ | refine zA ?_ _)); refine blk_put (cs := #[.int .i64 t194, .int .i64 t195, .int .i64 t196, .int .i64 x175003_2]) ?_ 3 _ rfl; (with_reducible repeat (first | refine zN ?_ _ | refine zD ?_ | refine zA ?_ _)); refine blk_put (cs := #[.int .i64 t194, .int .i64 t195, .int .i64 x175002_2, .int .i64 x175003_2]) ?_ 2 _ rfl; (with_reducible repeat (first | refine zN ?_ _ | refine zD ?_ | refine zA ?_ _)); refine blk_put (cs := #[.int .i64 t194, .int .i64 x175001_2, .int .i64 x175002_2, .int .i64 x175003_2]) ?_ 1 _ rfl; (with_reducible repeat (first | refine zN ?_ _ | refine zD ?_ | refine zA ?_ _)); refine blk_put (cs := #[.int .i64 x175000_2, .int .i64 x175001_2, .int .i64 x175002_2, .int .i64 x175003_2]) ?_ 0 _ rfl; (with_reducible repeat (first | refine zN ?_ _ | refine zD ?_ | refine zA ?_ _)); exact BK174.out⟩, ⟨by (with_reducible repeat (first | refine zN ?_ _ | refine zD ?_ | refine zA ?_ _)); refine blk_far ?_ NB182_174.out _; (with_reducible repeat (first | refine zN ?_ _ | refine zD ?_ | refine zA ?_ _)); refine blk_far ?_ NB182_174.out _; (with_reducible repeat (first | refine zN ?_ _ | refine zD ?_ | refine zA ?_ _)); refine blk_far ?_ NB182_174.out _; (with_reducible repeat (first | refine zN ?_ _ | refine zD ?_ | refine zA ?_ _)); refine blk_far ?_ NB182_174.out _; (with_reducible repeat (first | refine zN ?_ _ | refine zD ?_ | refine zA ?_ _)); exact BK182.out⟩, ⟨by (with_reducible repeat (first | refine zN ?_ _ | refine zD ?_ | refine zA ?_ _)); refine blk_far ?_ NB190_174.out _; (with_reducible repeat (first | refine zN ?_ _ | refine zD ?_ | refine zA ?_ _)); refine blk_far ?_ NB190_174.out _; (with_reducible repeat (first | refine zN ?_ _ | refine zD ?_ | refine zA ?_ _)); refine blk_far ?_ NB190_174.out _; (with_reducible repeat (first | refine zN ?_ _ | refine zD ?_ | refine zA ?_ _)); refine blk_far ?_ NB190_174.out _; (with_reducible repeat (first | refine zN ?_ _ | refine zD ?_ | refine zA ?_ _)); exact BK190.out⟩, ⟨by repeat (first | (with_reducible first | exact HB.out | apply yA | apply yN | apply yD | refine yS ?_ GE174.out | refine yS ?_ GE182.out | refine yS ?_ GE190.out | refine yS ?_ GE201.out) | exact HB.out)⟩⟩
        ·rw [if_neg c51] at H
         have c51b0 : decide (x14_2 < 40) = false := decide_eq_false c51
         clear c51
         replace H := Option.bind_eq_some_iff.mp H
         obtain ⟨t193, A980, H⟩ := H
         replace H : (some t193) = some r := H
         have A98 := qM A980
         clear A980
         obtain rfl := Option.some.inj H
         have hnb99 := NB174_182.out
         have hnc99 := NB182_174.out
         have hnb100 := NB174_190.out
         have hnc100 := NB190_174.out
         have hcz101_0 : wr.cell? ⟨gb174, 0, none⟩ = some (.int .i64 x175000_2) := (zC BK174.out 0).trans rfl
         have hcz101_1 : wr.cell? ⟨gb174, 1, none⟩ = some (.int .i64 x175001_2) := (zC BK174.out 1).trans rfl
         have hcz101_2 : wr.cell? ⟨gb174, 2, none⟩ = some (.int .i64 x175002_2) := (zC BK174.out 2).trans rfl
         have hcz101_3 : wr.cell? ⟨gb174, 3, none⟩ = some (.int .i64 x175003_2) := (zC BK174.out 3).trans rfl
         have hfz101_0 := zF BK174.out 0
         have hfz101_1 := zF BK174.out 1
         have hfz101_2 := zF BK174.out 2
         have hfz101_3 := zF BK174.out 3
         go_wp2_with (first | ((with_reducible refine gate_callee (f := 36) rfl ?_); refine goesL_ (some 118) rfl rfl Try.func36 (by kernel_rfl) rfl #[.agg #[.int .i64 x175000_2, .int .i64 x175001_2, .int .i64 x175002_2, .int .i64 x175003_2]] rfl (by (try simp only [List.map_toArray, List.map_cons, List.map_nil]); first | done | rfl | (simp only [List.length_drop, List.length_take]; rfl)) ?_; (with_reducible refine (impl_OutOk.calls x175000_2 x175001_2 x175002_2 x175003_2 t193 _ A98.out).mono ?_); rintro e w102 ⟨rfl, hb⟩; refine ⟨_, rfl, ?_⟩; have n0_ := qM (blk_below (g := gb174) (o := .cells #[.int .i64 x175000_2, .int .i64 x175001_2, .int .i64 x175002_2, .int .i64 x175003_2] 53 (0, 0)) (by (with_reducible repeat (first | refine zN ?_ _ | refine zD ?_ | refine zA ?_ _)); exact BK174.out) hb); have n1_ := qM (blk_below (g := gb182) (o := .cells #[.int .i64 t175, .int .i64 t176, .int .i64 t177, .int .i64 t178] 53 (0, 0)) (by (with_reducible repeat (first | refine zN ?_ _ | refine zD ?_ | refine zA ?_ _)); exact BK182.out) hb); have n2_ := qM (blk_below (g := gb190) (o := .cells #[.int .i64 t183, .int .i64 t184, .int .i64 t185, .int .i64 t186] 53 (0, 0)) (by (with_reducible repeat (first | refine zN ?_ _ | refine zD ?_ | refine zA ?_ _)); exact BK190.out) hb); have n3_ := qM (below_step (by repeat (first | (with_reducible first | exact HB.out | apply yA | apply yN | apply yD | refine yS ?_ GE174.out | refine yS ?_ GE182.out | refine yS ?_ GE190.out) | exact HB.out)) hb); clear BK174; clear BK182; clear BK190; clear HB; have BK174 := n0_; have BK182 := n1_; have BK190 := n2_; have HB := n3_; clear n0_ n1_ n2_ n3_; (try clear hb); (try clear hb2); (try clear hk); (try clear hi)))
         go_ret
         exact ⟨by first | rfl | (simp [errW_none, errW_some] <;> rfl) | (simp [*, errW_none, errW_some] <;> rfl), by repeat (first | (with_reducible first | exact HB.out | apply yA | apply yN | apply yD | refine yS ?_ GE174.out | refine yS ?_ GE182.out | refine yS ?_ GE190.out) | exact HB.out)⟩
     ·replace c45 := Bool.eq_false_iff.mpr c45
      subst c45
      have H1 : (if t181 = true then (some false) else ((impl_OutOk.f 1 0 0 0).bind fun t192 => (some t192))) = some r := by rw [if_neg (show ¬ (false = true) by decide)] at H; exact H
      clear H
      have H := H1
      clear H1
      by_cases c103 : t181 = true
      ·subst c103
       have H1 : (some false) = some r := by rw [if_pos rfl] at H; exact H
       clear H
       have H := H1
       clear H1
       obtain rfl := Option.some.inj H
       have hnb104 := NB174_182.out
       have hnc104 := NB182_174.out
       have hnb105 := NB174_190.out
       have hnc105 := NB190_174.out
       have hcz106_0 : wc.cell? ⟨gb174, 0, none⟩ = some (.int .i64 t170) := (zC BK174.out 0).trans rfl
       have hcz106_1 : wc.cell? ⟨gb174, 1, none⟩ = some (.int .i64 t171) := (zC BK174.out 1).trans rfl
       have hcz106_2 : wc.cell? ⟨gb174, 2, none⟩ = some (.int .i64 t172) := (zC BK174.out 2).trans rfl
       have hcz106_3 : wc.cell? ⟨gb174, 3, none⟩ = some (.int .i64 t173) := (zC BK174.out 3).trans rfl
       have hfz106_0 := zF BK174.out 0
       have hfz106_1 := zF BK174.out 1
       have hfz106_2 := zF BK174.out 2
       have hfz106_3 := zF BK174.out 3
       go_wp2_with (first | ((with_reducible refine gate_callee (f := 35) rfl ?_); refine goesL_ (some 57) rfl rfl Try.func35 (by kernel_rfl) rfl #[.agg #[.int .i64 t170, .int .i64 t171, .int .i64 t172, .int .i64 t173]] rfl (by (try simp only [List.map_toArray, List.map_cons, List.map_nil]); first | done | rfl | (simp only [List.length_drop, List.length_take]; rfl)) ?_; (with_reducible refine (spec_OutOk.calls t170 t171 t172 t173 false _ A44.out).mono ?_); rintro e w107 ⟨rfl, hb⟩; refine ⟨_, rfl, ?_⟩; have n0_ := qM (blk_below (g := gb174) (o := .cells #[.int .i64 t170, .int .i64 t171, .int .i64 t172, .int .i64 t173] 53 (0, 0)) (by (with_reducible repeat (first | refine zN ?_ _ | refine zD ?_ | refine zA ?_ _)); exact BK174.out) hb); have n1_ := qM (blk_below (g := gb182) (o := .cells #[.int .i64 t175, .int .i64 t176, .int .i64 t177, .int .i64 t178] 53 (0, 0)) (by (with_reducible repeat (first | refine zN ?_ _ | refine zD ?_ | refine zA ?_ _)); exact BK182.out) hb); have n2_ := qM (blk_below (g := gb190) (o := .cells #[.int .i64 t183, .int .i64 t184, .int .i64 t185, .int .i64 t186] 53 (0, 0)) (by (with_reducible repeat (first | refine zN ?_ _ | refine zD ?_ | refine zA ?_ _)); exact BK190.out) hb); have n3_ := qM (below_step (by repeat (first | (with_reducible first | exact HB.out | apply yA | apply yN | apply yD | refine yS ?_ GE174.out | refine yS ?_ GE182.out | refine yS ?_ GE190.out) | exact HB.out)) hb); clear BK174; clear BK182; clear BK190; clear HB; have BK174 := n0_; have BK182 := n1_; have BK190 := n2_; have HB := n3_; clear n0_ n1_ n2_ n3_; (try clear hb); (try clear hb2); (try clear hk); (try clear hi)))
       go_ret
       exact ⟨by first | rfl | (simp [errW_none, errW_some] <;> rfl) | (simp [*, errW_none, errW_some] <;> rfl), by repeat (first | (with_reducible first | exact HB.out | apply yA | apply yN | apply yD | refine yS ?_ GE174.out | refine yS ?_ GE182.out | refine yS ?_ GE190.out) | exact HB.out)⟩
      ·replace c103 := Bool.eq_false_iff.mpr c103
       subst c103
       have H1 : ((impl_OutOk.f 1 0 0 0).bind fun t192 => (some t192)) = some r := by rw [if_neg (show ¬ (false = true) by decide)] at H; exact H
       clear H
       have H := H1
       clear H1
       replace H := Option.bind_eq_some_iff.mp H
       obtain ⟨t192, A1080, H⟩ := H
       replace H : (some t192) = some r := H
       have A108 := qM A1080
       clear A1080
       obtain rfl := Option.some.inj H
       have hnb109 := NB174_182.out
       have hnc109 := NB182_174.out
       have hnb110 := NB174_190.out
       have hnc110 := NB190_174.out
       have hcz111_0 : wc.cell? ⟨gb174, 0, none⟩ = some (.int .i64 t170) := (zC BK174.out 0).trans rfl
       have hcz111_1 : wc.cell? ⟨gb174, 1, none⟩ = some (.int .i64 t171) := (zC BK174.out 1).trans rfl
       have hcz111_2 : wc.cell? ⟨gb174, 2, none⟩ = some (.int .i64 t172) := (zC BK174.out 2).trans rfl
       have hcz111_3 : wc.cell? ⟨gb174, 3, none⟩ = some (.int .i64 t173) := (zC BK174.out 3).trans rfl
       have hfz111_0 := zF BK174.out 0
       have hfz111_1 := zF BK174.out 1
       have hfz111_2 := zF BK174.out 2
       have hfz111_3 := zF BK174.out 3
       go_wp2_with (first | ((with_reducible refine gate_callee (f := 35) rfl ?_); refine goesL_ (some 57) rfl rfl Try.func35 (by kernel_rfl) rfl #[.agg #[.int .i64 t170, .int .i64 t171, .int .i64 t172, .int .i64 t173]] rfl (by (try simp only [List.map_toArray, List.map_cons, List.map_nil]); first | done | rfl | (simp only [List.length_drop, List.length_take]; rfl)) ?_; (with_reducible refine (spec_OutOk.calls t170 t171 t172 t173 false _ A44.out).mono ?_); rintro e w112 ⟨rfl, hb⟩; refine ⟨_, rfl, ?_⟩; have n0_ := qM (blk_below (g := gb174) (o := .cells #[.int .i64 t170, .int .i64 t171, .int .i64 t172, .int .i64 t173] 53 (0, 0)) (by (with_reducible repeat (first | refine zN ?_ _ | refine zD ?_ | refine zA ?_ _)); exact BK174.out) hb); have n1_ := qM (blk_below (g := gb182) (o := .cells #[.int .i64 t175, .int .i64 t176, .int .i64 t177, .int .i64 t178] 53 (0, 0)) (by (with_reducible repeat (first | refine zN ?_ _ | refine zD ?_ | refine zA ?_ _)); exact BK182.out) hb); have n2_ := qM (blk_below (g := gb190) (o := .cells #[.int .i64 t183, .int .i64 t184, .int .i64 t185, .int .i64 t186] 53 (0, 0)) (by (with_reducible repeat (first | refine zN ?_ _ | refine zD ?_ | refine zA ?_ _)); exact BK190.out) hb); have n3_ := qM (below_step (by repeat (first | (with_reducible first | exact HB.out | apply yA | apply yN | apply yD | refine yS ?_ GE174.out | refine yS ?_ GE182.out | refine yS ?_ GE190.out) | exact HB.out)) hb); clear BK174; clear BK182; clear BK190; clear HB; have BK174 := n0_; have BK182 := n1_; have BK190 := n2_; have HB := n3_; clear n0_ n1_ n2_ n3_; (try clear hb); (try clear hb2); (try clear hk); (try clear hi)) | (go_at_call 36; (with_reducible refine (impl_OutOk.calls 1 0 0 0 t192 _ A108.out).mono ?_); rintro e w113 ⟨rfl, hb⟩; have n0_ := qM (blk_below (g := gb174) (o := .cells #[.int .i64 t170, .int .i64 t171, .int .i64 t172, .int .i64 t173] 53 (0, 0)) (by (with_reducible repeat (first | refine zN ?_ _ | refine zD ?_ | refine zA ?_ _)); exact BK174.out) hb); have n1_ := qM (blk_below (g := gb182) (o := .cells #[.int .i64 t175, .int .i64 t176, .int .i64 t177, .int .i64 t178] 53 (0, 0)) (by (with_reducible repeat (first | refine zN ?_ _ | refine zD ?_ | refine zA ?_ _)); exact BK182.out) hb); have n2_ := qM (blk_below (g := gb190) (o := .cells #[.int .i64 t183, .int .i64 t184, .int .i64 t185, .int .i64 t186] 53 (0, 0)) (by (with_reducible repeat (first | refine zN ?_ _ | refine zD ?_ | refine zA ?_ _)); exact BK190.out) hb); have n3_ := qM (below_step (by repeat (first | (with_reducible first | exact HB.out | apply yA | apply yN | apply yD | refine yS ?_ GE174.out | refine yS ?_ GE182.out | refine yS ?_ GE190.out) | exact HB.out)) hb); clear BK174; clear BK182; clear BK190; clear HB; have BK174 := n0_; have BK182 := n1_; have BK190 := n2_; have HB := n3_; clear n0_ n1_ n2_ n3_; (try clear hb); (try clear hb2); (try clear hk); (try clear hi)))
       go_ret
       exact ⟨by first | rfl | (simp [errW_none, errW_some] <;> rfl) | (simp [*, errW_none, errW_some] <;> rfl), by repeat (first | (with_reducible first | exact HB.out | apply yA | apply yN | apply yD | refine yS ?_ GE174.out | refine yS ?_ GE182.out | refine yS ?_ GE190.out) | exact HB.out)⟩

/-- THE ONE PURE STATEMENT of laws_FnOutOnce. -/
def laws_FnOutOnce.Pure : Prop := ∀ (l0 : List Int), l0.length ≤ maxLen → (∀ x ∈ l0, (Lit.int .u8 x).wf = true) → ∃ k, laws_FnOutOnce.f k l0 = some true

end Go.Proofs.Ytaohaebgpbagmaa.PFnOutOnce
