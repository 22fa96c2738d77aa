/- Functions that a law reaches, each with the walk that shows what its call answers; laid by a program of this session. -/
import Derived.Test.YtaohaebgpbagmaaPFnExactHrdHearx0
import Derived.Test.YtaohaebgpbagmaaPFnExactHrdHearx1
import Derived.Test.YtaohaebgpbagmaaPFnExactHrdHearx3
import Derived.Test.YtaohaebgpbagmaaPFnExactHrdHearx4
namespace Go.Proofs.Ytaohaebgpbagmaa.PFnExactHrdHear
open Go.RowKit Go.Proofs.YtaohaebgpbagmaaW.PrintWords Go.Proofs.YtaohaebgpbagmaaW.PrintLast Go.Proofs.YtaohaebgpbagmaaW.PrintMore
attribute [local go_sem] max2_int min2_int max_two min_two max_three min_three max_four min_four   -- for this text's walks alone
set_option linter.unusedVariables false
set_option linter.unusedSimpArgs false

open Go.Proofs.YtaohaebgpbagmaaAl
/-! ### laws_FnExactHrdHear: function 8 -/
mutual
def laws_FnExactHrdHear.j0 : Nat → Int → Int → Int → Int → Int → Bool → List Int → List Int → List Int → List Int → List Int → List Int → List Int → List Int → Option (Bool)
 | 0, _, _, _, _, _, _, _, _, _, _, _, _, _, _ => none
 | k + 1, x1, x2, x3, x11, x14, x52, x179000, x179001, x194000, x194001, x201000, x201001, x209000, x209001 => if x52 = true then (some false) else ((laws_toHrdBook.f k x179000 x179001).bind fun bt210 => ((laws_eqHrdBook.f k x201000 x201001 bt210.1 bt210.2).bind fun t216 => (if t216 = true then ((laws_markHrdBook.f k x201000 x201001 1).bind fun bt217 => (if bt217.1 < 0 then (laws_FnExactHrdHear.j1 k x1 x2 x3 x11 true x179000 x179001 x194000 x194001 x209000 x209001) else ((laws_eqHrdBook.f k x209000 x209001 x194000 x194001).bind fun t220 => (if t220 = true then (laws_FnExactHrdHear.j1 k x1 x2 x3 x11 (x14 != x11) x179000 x179001 x194000 x194001 x209000 x209001) else (laws_FnExactHrdHear.j1 k x1 x2 x3 x11 true x179000 x179001 x194000 x194001 x209000 x209001))))) else (some false))))
def laws_FnExactHrdHear.j1 : Nat → Int → Int → Int → Int → Bool → List Int → List Int → List Int → List Int → List Int → List Int → Option (Bool)
 | 0, _, _, _, _, _, _, _, _, _, _, _ => none
 | k + 1, x1, x2, x3, x11, x73, x179000, x179001, x194000, x194001, x209000, x209001 => if x73 = true then (some false) else ((laws_markHrdBook.f k x209000 x209001 1).bind fun bt221 => ((laws_heldHrdBook.f k bt221.2.1 bt221.2.2 1).bind fun t224 => (if t224 < 0 then (some false) else (if t224 = bt221.1 then ((laws_toHrdBook.f k x179000 x179001).bind fun bt225 => ((impl_HrdHear.f bt225.1 bt225.2 x1 x2 x3).bind fun bt231 => ((laws_eqHrdBook.f k bt231.1 bt231.2.1 x194000 x194001).bind fun t239 => (if t239 = true then (laws_FnExactHrdHear.j2 k bt221.1 (bt231.2.2 != x11) bt221.2.1 bt221.2.2) else (laws_FnExactHrdHear.j2 k bt221.1 true bt221.2.1 bt221.2.2))))) else (some false)))))
def laws_FnExactHrdHear.j2 : Nat → Int → Bool → List Int → List Int → Option (Bool)
 | 0, _, _, _, _ => none
 | k + 1, x16, x102, x209000, x209001 => if x102 = true then (some false) else ((laws_heldHrdBook.f k x209000 x209001 1).bind fun t240 => (if t240 < 0 then (some false) else (if t240 = x16 then (some true) else (some false))))
end
def laws_FnExactHrdHear.f (k : Nat) (l0_0 : List Int) (l0_1 : List Int) (a1 : Int) (a2 : Int) (a3 : Int) : Option (Bool) := (laws_szHrdBook.f l0_0 l0_1 1048576).bind fun t179 => (if t179 < 0 then (some true) else ((laws_toHrdBook.f k l0_0 l0_1).bind fun bt180 => ((spec_HrdHear.f k bt180.1 bt180.2 a1 a2 a3).bind fun bt186 => ((laws_toHrdBook.f k l0_0 l0_1).bind fun bt194 => ((impl_HrdHear.f bt194.1 bt194.2 a1 a2 a3).bind fun bt201 => ((laws_eqHrdBook.f k bt201.1 bt201.2.1 bt186.1 bt186.2.1).bind fun t209 => (if t209 = true then (laws_FnExactHrdHear.j0 k a1 a2 a3 bt186.2.2 bt201.2.2 (bt201.2.2 != bt186.2.2) l0_0 l0_1 bt186.1 bt186.2.1 bt194.1 bt194.2 bt201.1 bt201.2.1) else (laws_FnExactHrdHear.j0 k a1 a2 a3 bt186.2.2 bt201.2.2 true l0_0 l0_1 bt186.1 bt186.2.1 bt194.1 bt194.2 bt201.1 bt201.2.1))))))))
theorem laws_FnExactHrdHear.mono_l : ∀ k, (∀ y0 y1 y2 y3 y4 y5 y6 y7 y8 y9 y10 y11 y12 y13, LeO (laws_FnExactHrdHear.j0 k y0 y1 y2 y3 y4 y5 y6 y7 y8 y9 y10 y11 y12 y13) (laws_FnExactHrdHear.j0 (k + 1) y0 y1 y2 y3 y4 y5 y6 y7 y8 y9 y10 y11 y12 y13)) ∧ (∀ y0 y1 y2 y3 y4 y5 y6 y7 y8 y9 y10, LeO (laws_FnExactHrdHear.j1 k y0 y1 y2 y3 y4 y5 y6 y7 y8 y9 y10) (laws_FnExactHrdHear.j1 (k + 1) y0 y1 y2 y3 y4 y5 y6 y7 y8 y9 y10)) ∧ (∀ y0 y1 y2 y3, LeO (laws_FnExactHrdHear.j2 k y0 y1 y2 y3) (laws_FnExactHrdHear.j2 (k + 1) y0 y1 y2 y3))
 | 0 => ⟨fun _ _ _ _ _ _ _ _ _ _ _ _ _ _ r h => by simp [laws_FnExactHrdHear.j0] at h, fun _ _ _ _ _ _ _ _ _ _ _ r h => by simp [laws_FnExactHrdHear.j1] at h, fun _ _ _ _ r h => by simp [laws_FnExactHrdHear.j2] at h⟩
 | k + 1 => by
  obtain ⟨ih0, ih1, ih2⟩ := laws_FnExactHrdHear.mono_l k
  refine ⟨?_, ?_, ?_⟩
  ·intro y0 y1 y2 y3 y4 y5 y6 y7 y8 y9 y10 y11 y12 y13
   unfold laws_FnExactHrdHear.j0
   repeat' first
   | (with_reducible exact ih0 _ _ _ _ _ _ _ _ _ _ _ _ _ _)
   | (with_reducible exact ih1 _ _ _ _ _ _ _ _ _ _ _)
   | (with_reducible exact ih2 _ _ _ _)
   | (with_reducible exact laws_eqHrdBook.mono _ _ _ _ _)
   | (with_reducible exact laws_heldHrdBook.mono _ _ _ _)
   | (with_reducible exact laws_markHrdBook.mono _ _ _ _)
   | (with_reducible exact laws_toHrdBook.mono _ _ _)
   | (with_reducible exact spec_HrdHear.mono _ _ _ _ _ _)
   | (with_reducible exact LeO.refl _)
   | (with_reducible exact LeO.none _)
   | (with_reducible refine LeO.ite ?_ ?_)
   | (with_reducible refine LeO.bind ?_ (fun _ => ?_))
   | exact ih0 _ _ _ _ _ _ _ _ _ _ _ _ _ _
   | exact ih1 _ _ _ _ _ _ _ _ _ _ _
   | exact ih2 _ _ _ _
   | exact laws_eqHrdBook.mono _ _ _ _ _
   | exact laws_heldHrdBook.mono _ _ _ _
   | exact laws_markHrdBook.mono _ _ _ _
   | exact laws_toHrdBook.mono _ _ _
   | exact spec_HrdHear.mono _ _ _ _ _ _
   | exact LeO.none _
   | refine LeO.ite ?_ ?_
   | refine LeO.bind ?_ (fun _ => ?_)
  ·intro y0 y1 y2 y3 y4 y5 y6 y7 y8 y9 y10
   unfold laws_FnExactHrdHear.j1
   repeat' first
   | (with_reducible exact ih0 _ _ _ _ _ _ _ _ _ _ _ _ _ _)
   | (with_reducible exact ih1 _ _ _ _ _ _ _ _ _ _ _)
   | (with_reducible exact ih2 _ _ _ _)
   | (with_reducible exact laws_eqHrdBook.mono _ _ _ _ _)
   | (with_reducible exact laws_heldHrdBook.mono _ _ _ _)
   | (with_reducible exact laws_markHrdBook.mono _ _ _ _)
   | (with_reducible exact laws_toHrdBook.mono _ _ _)
   | (with_reducible exact spec_HrdHear.mono _ _ _ _ _ _)
   | (with_reducible exact LeO.refl _)
   | (with_reducible exact LeO.none _)
   | (with_reducible refine LeO.ite ?_ ?_)
   | (with_reducible refine LeO.bind ?_ (fun _ => ?_))
   | exact ih0 _ _ _ _ _ _ _ _ _ _ _ _ _ _
   | exact ih1 _ _ _ _ _ _ _ _ _ _ _
   | exact ih2 _ _ _ _
   | exact laws_eqHrdBook.mono _ _ _ _ _
   | exact laws_heldHrdBook.mono _ _ _ _
   | exact laws_markHrdBook.mono _ _ _ _
   | exact laws_toHrdBook.mono _ _ _
   | exact spec_HrdHear.mono _ _ _ _ _ _
   | exact LeO.none _
   | refine LeO.ite ?_ ?_
   | refine LeO.bind ?_ (fun _ => ?_)
  ·intro y0 y1 y2 y3
   unfold laws_FnExactHrdHear.j2
   repeat' first
   | (with_reducible exact ih0 _ _ _ _ _ _ _ _ _ _ _ _ _ _)
   | (with_reducible exact ih1 _ _ _ _ _ _ _ _ _ _ _)
   | (with_reducible exact ih2 _ _ _ _)
   | (with_reducible exact laws_eqHrdBook.mono _ _ _ _ _)
   | (with_reducible exact laws_heldHrdBook.mono _ _ _ _)
   | (with_reducible exact laws_markHrdBook.mono _ _ _ _)
   | (with_reducible exact laws_toHrdBook.mono _ _ _)
   | (with_reducible exact spec_HrdHear.mono _ _ _ _ _ _)
   | (with_reducible exact LeO.refl _)
   | (with_reducible exact LeO.none _)
   | (with_reducible refine LeO.ite ?_ ?_)
   | (with_reducible refine LeO.bind ?_ (fun _ => ?_))
   | exact ih0 _ _ _ _ _ _ _ _ _ _ _ _ _ _
   | exact ih1 _ _ _ _ _ _ _ _ _ _ _
   | exact ih2 _ _ _ _
   | exact laws_eqHrdBook.mono _ _ _ _ _
   | exact laws_heldHrdBook.mono _ _ _ _
   | exact laws_markHrdBook.mono _ _ _ _
   | exact laws_toHrdBook.mono _ _ _
   | exact spec_HrdHear.mono _ _ _ _ _ _
   | exact LeO.none _
   | refine LeO.ite ?_ ?_
   | refine LeO.bind ?_ (fun _ => ?_)
theorem laws_FnExactHrdHear.mono : ∀ a0 a1 a2 a3 a4 k, LeO (laws_FnExactHrdHear.f k a0 a1 a2 a3 a4) (laws_FnExactHrdHear.f (k + 1) a0 a1 a2 a3 a4) := by
 intro a0 a1 a2 a3 a4 k
 obtain ⟨ih0, ih1, ih2⟩ := laws_FnExactHrdHear.mono_l k
 unfold laws_FnExactHrdHear.f
 repeat' first
   | (with_reducible exact ih0 _ _ _ _ _ _ _ _ _ _ _ _ _ _)
   | (with_reducible exact ih1 _ _ _ _ _ _ _ _ _ _ _)
   | (with_reducible exact ih2 _ _ _ _)
   | (with_reducible exact laws_eqHrdBook.mono _ _ _ _ _)
   | (with_reducible exact laws_heldHrdBook.mono _ _ _ _)
   | (with_reducible exact laws_markHrdBook.mono _ _ _ _)
   | (with_reducible exact laws_toHrdBook.mono _ _ _)
   | (with_reducible exact spec_HrdHear.mono _ _ _ _ _ _)
   | (with_reducible exact LeO.refl _)
   | (with_reducible exact LeO.none _)
   | (with_reducible refine LeO.ite ?_ ?_)
   | (with_reducible refine LeO.bind ?_ (fun _ => ?_))
   | exact ih0 _ _ _ _ _ _ _ _ _ _ _ _ _ _
   | exact ih1 _ _ _ _ _ _ _ _ _ _ _
   | exact ih2 _ _ _ _
   | exact laws_eqHrdBook.mono _ _ _ _ _
   | exact laws_heldHrdBook.mono _ _ _ _
   | exact laws_markHrdBook.mono _ _ _ _
   | exact laws_toHrdBook.mono _ _ _
   | exact spec_HrdHear.mono _ _ _ _ _ _
   | exact LeO.none _
   | refine LeO.ite ?_ ?_
   | refine LeO.bind ?_ (fun _ => ?_)
set_option maxHeartbeats 8000000 in
set_option maxRecDepth 100000 in
theorem laws_FnExactHrdHear.calls (k : Nat) (A0_0 : Option Addr) (c0_0 : Nat) (l0_0 : List Int) (A0_1 : Option Addr) (c0_1 : Nat) (l0_1 : List Int) (a1 : Int) (a2 : Int) (a3 : Int) (r : Bool) (w : World) (hr0_0 : Kd.C (Kd.int .i64) w A0_0 l0_0.length l0_0) (hc0_0 : l0_0.length ≤ c0_0) (hr0_1 : Kd.C (Kd.int .i64) w A0_1 l0_1.length l0_1) (hc0_1 : l0_1.length ≤ c0_1) (h : laws_FnExactHrdHear.f k l0_0 l0_1 a1 a2 a3 = some r) :
  Calls Try.prog 8 #[.agg #[.slice A0_0 l0_0.length c0_0, .slice A0_1 l0_1.length c0_1], .int .i64 a1, .int .i64 a2, .int .i64 a3] w fun e w' => e = .returned (.bool r) ∧ Below w.heap.size w w' := by
 have hu48 := Try.underlying48
 have hu37 := Try.underlying37
 have HR0_0 := qM hr0_0
 have HC0_0 := qM hc0_0
 clear hr0_0 hc0_0
 have HR0_1 := qM hr0_1
 have HC0_1 := qM hc0_1
 clear hr0_1 hc0_1
 have HB := qM (Below.refl w.heap.size w)
 have H : ((laws_szHrdBook.f l0_0 l0_1 1048576).bind fun t179 => (if t179 < 0 then (some true) else ((laws_toHrdBook.f k l0_0 l0_1).bind fun bt180 => ((spec_HrdHear.f k bt180.1 bt180.2 a1 a2 a3).bind fun bt186 => ((laws_toHrdBook.f k l0_0 l0_1).bind fun bt194 => ((impl_HrdHear.f bt194.1 bt194.2 a1 a2 a3).bind fun bt201 => ((laws_eqHrdBook.f k bt201.1 bt201.2.1 bt186.1 bt186.2.1).bind fun t209 => (if t209 = true then (laws_FnExactHrdHear.j0 k a1 a2 a3 bt186.2.2 bt201.2.2 (bt201.2.2 != bt186.2.2) l0_0 l0_1 bt186.1 bt186.2.1 bt194.1 bt194.2 bt201.1 bt201.2.1) else (laws_FnExactHrdHear.j0 k a1 a2 a3 bt186.2.2 bt201.2.2 true l0_0 l0_1 bt186.1 bt186.2.1 bt194.1 bt194.2 bt201.1 bt201.2.1))))))))) = some r := h
 clear h
 replace H := Option.bind_eq_some_iff.mp H
 obtain ⟨t179, A50, H⟩ := H
 replace H : (if t179 < 0 then (some true) else ((laws_toHrdBook.f k l0_0 l0_1).bind fun bt180 => ((spec_HrdHear.f k bt180.1 bt180.2 a1 a2 a3).bind fun bt186 => ((laws_toHrdBook.f k l0_0 l0_1).bind fun bt194 => ((impl_HrdHear.f bt194.1 bt194.2 a1 a2 a3).bind fun bt201 => ((laws_eqHrdBook.f k bt201.1 bt201.2.1 bt186.1 bt186.2.1).bind fun t209 => (if t209 = true then (laws_FnExactHrdHear.j0 k a1 a2 a3 bt186.2.2 bt201.2.2 (bt201.2.2 != bt186.2.2) l0_0 l0_1 bt186.1 bt186.2.1 bt194.1 bt194.2 bt201.1 bt201.2.1) else (laws_FnExactHrdHear.j0 k a1 a2 a3 bt186.2.2 bt201.2.2 true l0_0 l0_1 bt186.1 bt186.2.1 bt194.1 bt194.2 bt201.1 bt201.2.1)))))))) = some r := H
 have A5 := qM A50
 clear A50
 by_cases c6 : t179 < 0
 ·rw [if_pos c6] at H
  have c6b0 : decide (t179 < 0) = true := decide_eq_true c6
  clear c6
  obtain rfl := Option.some.inj H
  go_enter Try.func8, Try.ntmps8
  go_wp2_with (first | ((with_reducible refine gate_dst (N := 4) rfl ?_); refine box_event ?hg (N := 4) ?hd (cs := #[.slice A0_0 l0_0.length c0_0, .slice A0_1 l0_1.length c0_1]) (t := 48) ?hr ?_; (case hd => rfl); (case hg => rfl); (case hr => first | (go_simp; done) | (go_simp; rfl)); intro gb178 hg w7 hbox hb; have n0_ := qM (below_step (by repeat (first | (with_reducible first | exact HB.out | apply yA | apply yN | apply yD) | exact HB.out)) hb); have n1_ := qM (hbox); have n2_ := qM ((by rw [hg]; exact (below_size (by repeat (first | (with_reducible first | exact HB.out | apply yA | apply yN | apply yD) | exact HB.out))) : w.heap.size ≤ gb178)); have n3_ := qM ((by rw [hg]; exact (below_size (by repeat (first | (with_reducible first | exact HB.out | apply yA | apply yN | apply yD) | exact HB.out))) : w.heap.size ≤ gb178)); clear HB; have HB := n0_; have BK178 := n1_; have GW178 := n2_; have GE178 := n3_; clear n0_ n1_ n2_ n3_; clear hb hbox hg; have hcz8_0 : w7.cell? ⟨gb178, 0, none⟩ = some (.slice A0_0 l0_0.length c0_0) := (zC BK178.out 0).trans rfl; have hcz8_1 : w7.cell? ⟨gb178, 1, none⟩ = some (.slice A0_1 l0_1.length c0_1) := (zC BK178.out 1).trans rfl; have hfz8_0 := zF BK178.out 0; have hfz8_1 := zF BK178.out 1) | ((with_reducible refine gate_callee (f := 30) rfl ?_); refine goesL_ (some 22) rfl rfl Try.func30 (by kernel_rfl) rfl #[.agg #[.slice A0_0 l0_0.length c0_0, .slice A0_1 l0_1.length c0_1], .int .i64 1048576] rfl (by (try simp only [List.map_toArray, List.map_cons, List.map_nil]); first | done | rfl | (simp only [List.length_drop, List.length_take]; rfl)) ?_; (with_reducible refine (laws_szHrdBook.calls _ _ l0_0 _ _ l0_1 1048576 t179 _ ?side1 ?side2 ?side3 ?side4 A5.out).mono ?_); (case side1 => repeat (first | exact (Kd.C_below HR0_0.out HB.out) | (with_reducible refine Kd.C_alloc ?_ _) | (with_reducible refine Kd.C_drewN ?_ _) | (with_reducible refine Kd.C_drew ?_))); (case side2 => exact HC0_0.out); (case side3 => repeat (first | exact (Kd.C_below HR0_1.out HB.out) | (with_reducible refine Kd.C_alloc ?_ _) | (with_reducible refine Kd.C_drewN ?_ _) | (with_reducible refine Kd.C_drew ?_))); (case side4 => exact HC0_1.out); rintro e w9 ⟨rfl, hb⟩; refine ⟨_, rfl, ?_⟩; have n0_ := qM (blk_below (g := gb178) (o := .cells #[.slice A0_0 l0_0.length c0_0, .slice A0_1 l0_1.length c0_1] 48 (0, 0)) (by (with_reducible repeat (first | refine zN ?_ _ | refine zD ?_ | refine zA ?_ _)); exact BK178.out) hb); have n1_ := qM (below_step (by repeat (first | (with_reducible first | exact HB.out | apply yA | apply yN | apply yD | refine yS ?_ GE178.out) | exact HB.out)) hb); clear BK178; clear HB; have BK178 := n0_; have HB := n1_; clear n0_ n1_; (try clear hb); (try clear hb2); (try clear hk); (try clear hi)))
  go_ret
  exact ⟨by first | rfl | (simp [errW_none, errW_some] <;> rfl) | (simp [*, errW_none, errW_some] <;> rfl), by repeat (first | (with_reducible first | exact HB.out | apply yA | apply yN | apply yD | refine yS ?_ GE178.out) | exact HB.out)⟩
 ·rw [if_neg c6] at H
  have c6b0 : decide (t179 < 0) = false := decide_eq_false c6
  clear c6
  replace H := Option.bind_eq_some_iff.mp H
  obtain ⟨⟨t180, t183⟩, A100, H⟩ := H
  replace H : ((spec_HrdHear.f k t180 t183 a1 a2 a3).bind fun bt186 => ((laws_toHrdBook.f k l0_0 l0_1).bind fun bt194 => ((impl_HrdHear.f bt194.1 bt194.2 a1 a2 a3).bind fun bt201 => ((laws_eqHrdBook.f k bt201.1 bt201.2.1 bt186.1 bt186.2.1).bind fun t209 => (if t209 = true then (laws_FnExactHrdHear.j0 k a1 a2 a3 bt186.2.2 bt201.2.2 (bt201.2.2 != bt186.2.2) l0_0 l0_1 bt186.1 bt186.2.1 bt194.1 bt194.2 bt201.1 bt201.2.1) else (laws_FnExactHrdHear.j0 k a1 a2 a3 bt186.2.2 bt201.2.2 true l0_0 l0_1 bt186.1 bt186.2.1 bt194.1 bt194.2 bt201.1 bt201.2.1)))))) = some r := H
  have A10 := qM A100
  clear A100
  replace H := Option.bind_eq_some_iff.mp H
  obtain ⟨⟨t186, t189, t192⟩, A110, H⟩ := H
  replace H : ((laws_toHrdBook.f k l0_0 l0_1).bind fun bt194 => ((impl_HrdHear.f bt194.1 bt194.2 a1 a2 a3).bind fun bt201 => ((laws_eqHrdBook.f k bt201.1 bt201.2.1 t186 t189).bind fun t209 => (if t209 = true then (laws_FnExactHrdHear.j0 k a1 a2 a3 t192 bt201.2.2 (bt201.2.2 != t192) l0_0 l0_1 t186 t189 bt194.1 bt194.2 bt201.1 bt201.2.1) else (laws_FnExactHrdHear.j0 k a1 a2 a3 t192 bt201.2.2 true l0_0 l0_1 t186 t189 bt194.1 bt194.2 bt201.1 bt201.2.1))))) = some r := H
  have A11 := qM A110
  clear A110
  replace H := Option.bind_eq_some_iff.mp H
  obtain ⟨⟨t194, t197⟩, A120, H⟩ := H
  replace H : ((impl_HrdHear.f t194 t197 a1 a2 a3).bind fun bt201 => ((laws_eqHrdBook.f k bt201.1 bt201.2.1 t186 t189).bind fun t209 => (if t209 = true then (laws_FnExactHrdHear.j0 k a1 a2 a3 t192 bt201.2.2 (bt201.2.2 != t192) l0_0 l0_1 t186 t189 t194 t197 bt201.1 bt201.2.1) else (laws_FnExactHrdHear.j0 k a1 a2 a3 t192 bt201.2.2 true l0_0 l0_1 t186 t189 t194 t197 bt201.1 bt201.2.1)))) = some r := H
  have A12 := qM A120
  clear A120
  replace H := Option.bind_eq_some_iff.mp H
  obtain ⟨⟨t201, t204, t207⟩, A130, H⟩ := H
  replace H : ((laws_eqHrdBook.f k t201 t204 t186 t189).bind fun t209 => (if t209 = true then (laws_FnExactHrdHear.j0 k a1 a2 a3 t192 t207 (t207 != t192) l0_0 l0_1 t186 t189 t194 t197 t201 t204) else (laws_FnExactHrdHear.j0 k a1 a2 a3 t192 t207 true l0_0 l0_1 t186 t189 t194 t197 t201 t204))) = some r := H
  have A13 := qM A130
  clear A130
  have HC14 := qM H
  clear H
  go_enter Try.func8, Try.ntmps8
  go_upto_region 8 with (first | ((with_reducible refine gate_dst (N := 4) rfl ?_); refine box_event ?hg (N := 4) ?hd (cs := #[.slice A0_0 l0_0.length c0_0, .slice A0_1 l0_1.length c0_1]) (t := 48) ?hr ?_; (case hd => rfl); (case hg => rfl); (case hr => first | (go_simp; done) | (go_simp; rfl)); intro gb178 hg w15 hbox hb; have n0_ := qM (below_step (by repeat (first | (with_reducible first | exact HB.out | apply yA | apply yN | apply yD) | exact HB.out)) hb); have n1_ := qM (hbox); have n2_ := qM ((by rw [hg]; exact (below_size (by repeat (first | (with_reducible first | exact HB.out | apply yA | apply yN | apply yD) | exact HB.out))) : w.heap.size ≤ gb178)); have n3_ := qM ((by rw [hg]; exact (below_size (by repeat (first | (with_reducible first | exact HB.out | apply yA | apply yN | apply yD) | exact HB.out))) : w.heap.size ≤ gb178)); clear HB; have HB := n0_; have BK178 := n1_; have GW178 := n2_; have GE178 := n3_; clear n0_ n1_ n2_ n3_; clear hb hbox hg; have hcz16_0 : w15.cell? ⟨gb178, 0, none⟩ = some (.slice A0_0 l0_0.length c0_0) := (zC BK178.out 0).trans rfl; have hcz16_1 : w15.cell? ⟨gb178, 1, none⟩ = some (.slice A0_1 l0_1.length c0_1) := (zC BK178.out 1).trans rfl; have hfz16_0 := zF BK178.out 0; have hfz16_1 := zF BK178.out 1) | ((with_reducible refine gate_callee (f := 30) rfl ?_); refine goesL_ (some 22) rfl rfl Try.func30 (by kernel_rfl) rfl #[.agg #[.slice A0_0 l0_0.length c0_0, .slice A0_1 l0_1.length c0_1], .int .i64 1048576] rfl (by (try simp only [List.map_toArray, List.map_cons, List.map_nil]); first | done | rfl | (simp only [List.length_drop, List.length_take]; rfl)) ?_; (with_reducible refine (laws_szHrdBook.calls _ _ l0_0 _ _ l0_1 1048576 t179 _ ?side1 ?side2 ?side3 ?side4 A5.out).mono ?_); (case side1 => repeat (first | exact (Kd.C_below HR0_0.out HB.out) | (with_reducible refine Kd.C_alloc ?_ _) | (with_reducible refine Kd.C_drewN ?_ _) | (with_reducible refine Kd.C_drew ?_))); (case side2 => exact HC0_0.out); (case side3 => repeat (first | exact (Kd.C_below HR0_1.out HB.out) | (with_reducible refine Kd.C_alloc ?_ _) | (with_reducible refine Kd.C_drewN ?_ _) | (with_reducible refine Kd.C_drew ?_))); (case side4 => exact HC0_1.out); rintro e w17 ⟨rfl, hb⟩; refine ⟨_, rfl, ?_⟩; have n0_ := qM (blk_below (g := gb178) (o := .cells #[.slice A0_0 l0_0.length c0_0, .slice A0_1 l0_1.length c0_1] 48 (0, 0)) (by (with_reducible repeat (first | refine zN ?_ _ | refine zD ?_ | refine zA ?_ _)); exact BK178.out) hb); have n1_ := qM (below_step (by repeat (first | (with_reducible first | exact HB.out | apply yA | apply yN | apply yD | refine yS ?_ GE178.out) | exact HB.out)) hb); clear BK178; clear HB; have BK178 := n0_; have HB := n1_; clear n0_ n1_; (try clear hb); (try clear hb2); (try clear hk); (try clear hi); have hcz18_0 : w17.cell? ⟨gb178, 0, none⟩ = some (.slice A0_0 l0_0.length c0_0) := (zC BK178.out 0).trans rfl; have hcz18_1 : w17.cell? ⟨gb178, 1, none⟩ = some (.slice A0_1 l0_1.length c0_1) := (zC BK178.out 1).trans rfl; have hfz18_0 := zF BK178.out 0; have hfz18_1 := zF BK178.out 1) | ((with_reducible refine gate_callee (f := 31) rfl ?_); refine goesL_ (some 27) rfl rfl Try.func31 (by kernel_rfl) rfl #[.agg #[.slice A0_0 l0_0.length c0_0, .slice A0_1 l0_1.length c0_1]] rfl (by (try simp only [List.map_toArray, List.map_cons, List.map_nil]); first | done | rfl | (simp only [List.length_drop, List.length_take]; rfl)) ?_; (with_reducible refine (laws_toHrdBook.calls k _ _ l0_0 _ _ l0_1 t180 t183 _ ?side1 ?side2 ?side3 ?side4 A10.out).mono ?_); (case side1 => repeat (first | exact (Kd.C_below HR0_0.out HB.out) | (with_reducible refine Kd.C_alloc ?_ _) | (with_reducible refine Kd.C_drewN ?_ _) | (with_reducible refine Kd.C_drew ?_))); (case side2 => exact HC0_0.out); (case side3 => repeat (first | exact (Kd.C_below HR0_1.out HB.out) | (with_reducible refine Kd.C_alloc ?_ _) | (with_reducible refine Kd.C_drewN ?_ _) | (with_reducible refine Kd.C_drew ?_))); (case side4 => exact HC0_1.out); rintro e w19 ⟨v181, v184, rfl, ho0, ho1, hb⟩; refine ⟨_, rfl, ?_⟩; have n0_ := qM (Kd.R_lower ho0 (below_size (by repeat (first | (with_reducible first | exact HB.out | apply yA | apply yN | apply yD | refine yS ?_ GE178.out) | exact HB.out)))); have n1_ := qM (Kd.R_lower ho1 (below_size (by repeat (first | (with_reducible first | exact HB.out | apply yA | apply yN | apply yD | refine yS ?_ GE178.out) | exact HB.out)))); have n2_ := qM (blk_below (g := gb178) (o := .cells #[.slice A0_0 l0_0.length c0_0, .slice A0_1 l0_1.length c0_1] 48 (0, 0)) (by (with_reducible repeat (first | refine zN ?_ _ | refine zD ?_ | refine zA ?_ _)); exact BK178.out) hb); have n3_ := qM (below_step (by repeat (first | (with_reducible first | exact HB.out | apply yA | apply yN | apply yD | refine yS ?_ GE178.out) | exact HB.out)) hb); clear BK178; clear HB; have HO182 := n0_; have HO185 := n1_; have BK178 := n2_; have HB := n3_; clear n0_ n1_ n2_ n3_; (try clear hb); (try clear hb2); (try clear hk); (try clear hi); (try clear ho0); (try clear ho1); obtain ⟨Ao20, co20, eo20⟩ := Kd.R_slice HO182.out; subst eo20; obtain ⟨Ao21, co21, eo21⟩ := Kd.R_slice HO185.out; subst eo21) | ((with_reducible refine gate_callee (f := 27) rfl ?_); refine goesL_ (some 31) rfl rfl Try.func27 (by kernel_rfl) rfl #[.agg #[.slice Ao20 t180.length co20, .slice Ao21 t183.length co21], .int .i64 a1, .int .i64 a2, .int .i64 a3] rfl (by (try simp only [List.map_toArray, List.map_cons, List.map_nil]); first | done | rfl | (simp only [List.length_drop, List.length_take]; rfl)) ?_; (with_reducible refine (spec_HrdHear.calls k _ _ t180 _ _ t183 a1 a2 a3 t186 t189 t192 _ ?side1 ?side2 ?side3 ?side4 A11.out).mono ?_); (case side1 => repeat (first | exact (qR HO182.out).2.2 | (with_reducible refine Kd.C_alloc ?_ _) | (with_reducible refine Kd.C_drewN ?_ _) | (with_reducible refine Kd.C_drew ?_))); (case side2 => exact (qR HO182.out).2.1); (case side3 => repeat (first | exact (qR HO185.out).2.2 | (with_reducible refine Kd.C_alloc ?_ _) | (with_reducible refine Kd.C_drewN ?_ _) | (with_reducible refine Kd.C_drew ?_))); (case side4 => exact (qR HO185.out).2.1); rintro e w22 ⟨v187, v190, rfl, ho0, ho1, hb⟩; refine ⟨_, rfl, ?_⟩; have n0_ := qM (Kd.R_mono (Kd.R_told (Kd.R_told (Kd.R_old (by (with_reducible repeat (first | apply qA | apply qN | apply qD)); exact HO182.out) hb) (Kd.R_base ho0)) (Kd.R_base ho1)) (fun _ h_ => h_.1)); have n1_ := qM (Kd.R_mono (Kd.R_told (Kd.R_told (Kd.R_old (by (with_reducible repeat (first | apply qA | apply qN | apply qD)); exact HO185.out) hb) (Kd.R_base ho0)) (Kd.R_base ho1)) (fun _ h_ => h_.1)); have n2_ := qM (Kd.R_lower (Kd.R_new' (Kd.R_new' ho0 (Kd.R_lt (by (with_reducible repeat (first | apply qA | apply qN | apply qD)); exact HO182.out))) (Kd.R_lt (by (with_reducible repeat (first | apply qA | apply qN | apply qD)); exact HO185.out))) (below_size (by repeat (first | (with_reducible first | exact HB.out | apply yA | apply yN | apply yD | refine yS ?_ GE178.out) | exact HB.out)))); have n3_ := qM (Kd.R_lower (Kd.R_new' (Kd.R_new' ho1 (Kd.R_lt (by (with_reducible repeat (first | apply qA | apply qN | apply qD)); exact HO182.out))) (Kd.R_lt (by (with_reducible repeat (first | apply qA | apply qN | apply qD)); exact HO185.out))) (below_size (by repeat (first | (with_reducible first | exact HB.out | apply yA | apply yN | apply yD | refine yS ?_ GE178.out) | exact HB.out)))); have n4_ := qM (blk_below (g := gb178) (o := .cells #[.slice A0_0 l0_0.length c0_0, .slice A0_1 l0_1.length c0_1] 48 (0, 0)) (by (with_reducible repeat (first | refine zN ?_ _ | refine zD ?_ | refine zA ?_ _)); exact BK178.out) hb); have n5_ := qM (below_step (by repeat (first | (with_reducible first | exact HB.out | apply yA | apply yN | apply yD | refine yS ?_ GE178.out) | exact HB.out)) hb); clear HO182; clear HO185; clear BK178; clear HB; have HO182 := n0_; have HO185 := n1_; have HO188 := n2_; have HO191 := n3_; have BK178 := n4_; have HB := n5_; clear n0_ n1_ n2_ n3_ n4_ n5_; (try clear hb); (try clear hb2); (try clear hk); (try clear hi); (try clear ho0); (try clear ho1)) | ((with_reducible refine gate_dst (N := 10) rfl ?_); refine box_event ?hg (N := 10) ?hd (cs := #[.slice none 0 0, .slice none 0 0]) (t := 37) ?hr ?_; (case hd => rfl); (case hg => rfl); (case hr => first | (go_simp; done) | (go_simp; rfl)); intro gb193 hg w23 hbox hb; have n0_ := qM (Kd.R_below (by (with_reducible repeat (first | apply qA | apply qN | apply qD)); exact HO182.out) hb); have n1_ := qM (Kd.R_below (by (with_reducible repeat (first | apply qA | apply qN | apply qD)); exact HO185.out) hb); have n2_ := qM (Kd.R_below (by (with_reducible repeat (first | apply qA | apply qN | apply qD)); exact HO188.out) hb); have n3_ := qM (Kd.R_below (by (with_reducible repeat (first | apply qA | apply qN | apply qD)); exact HO191.out) hb); have n4_ := qM (blk_below (g := gb178) (o := .cells #[.slice A0_0 l0_0.length c0_0, .slice A0_1 l0_1.length c0_1] 48 (0, 0)) (by (with_reducible repeat (first | refine zN ?_ _ | refine zD ?_ | refine zA ?_ _)); exact BK178.out) hb); have n5_ := qM (below_step (by repeat (first | (with_reducible first | exact HB.out | apply yA | apply yN | apply yD | refine yS ?_ GE178.out) | exact HB.out)) hb); have n6_ := qM (hbox); have n7_ := qM ((by rw [hg]; exact (below_size (by repeat (first | (with_reducible first | exact HB.out | apply yA | apply yN | apply yD | refine yS ?_ GE178.out) | exact HB.out))) : w.heap.size ≤ gb193)); have n8_ := qM ((by rw [hg]; exact (below_size (by repeat (first | (with_reducible first | exact HB.out | apply yA | apply yN | apply yD | refine yS ?_ GE178.out) | exact HB.out))) : w.heap.size ≤ gb193)); have n9_ := qM ((by rw [hg]; exact Nat.ne_of_lt (blk_lt (g := gb178) (o := .cells #[.slice A0_0 l0_0.length c0_0, .slice A0_1 l0_1.length c0_1] 48 (0, 0)) (by (with_reducible repeat (first | refine zN ?_ _ | refine zD ?_ | refine zA ?_ _)); exact BK178.out)) : gb178 ≠ gb193)); have n10_ := qM ((by rw [hg]; exact Nat.ne_of_gt (blk_lt (g := gb178) (o := .cells #[.slice A0_0 l0_0.length c0_0, .slice A0_1 l0_1.length c0_1] 48 (0, 0)) (by (with_reducible repeat (first | refine zN ?_ _ | refine zD ?_ | refine zA ?_ _)); exact BK178.out)) : gb193 ≠ gb178)); clear HO182; clear HO185; clear HO188; clear HO191; clear BK178; clear HB; have HO182 := n0_; have HO185 := n1_; have HO188 := n2_; have HO191 := n3_; have BK178 := n4_; have HB := n5_; have BK193 := n6_; have GW193 := n7_; have GE193 := n8_; have NB178_193 := n9_; have NB193_178 := n10_; clear n0_ n1_ n2_ n3_ n4_ n5_ n6_ n7_ n8_ n9_ n10_; clear hb hbox hg; obtain ⟨Ao24, co24, eo24⟩ := Kd.R_slice HO188.out; subst eo24; have hnb25 := NB193_178.out; have hnc25 := NB178_193.out; have hcz26_0 : w23.cell? ⟨gb193, 0, none⟩ = some (.slice none 0 0) := (zC BK193.out 0).trans rfl; have hcz26_1 : w23.cell? ⟨gb193, 1, none⟩ = some (.slice none 0 0) := (zC BK193.out 1).trans rfl; have hfz26_0 := zF BK193.out 0; have hfz26_1 := zF BK193.out 1; obtain ⟨Ao27, co27, eo27⟩ := Kd.R_slice HO191.out; subst eo27; have hcz28_0 : w23.cell? ⟨gb178, 0, none⟩ = some (.slice A0_0 l0_0.length c0_0) := (zC BK178.out 0).trans rfl; have hcz28_1 : w23.cell? ⟨gb178, 1, none⟩ = some (.slice A0_1 l0_1.length c0_1) := (zC BK178.out 1).trans rfl; have hfz28_0 := zF BK178.out 0; have hfz28_1 := zF BK178.out 1) | ((with_reducible refine gate_callee (f := 31) rfl ?_); refine goesL_ (some 35) rfl rfl Try.func31 (by kernel_rfl) rfl #[.agg #[.slice A0_0 l0_0.length c0_0, .slice A0_1 l0_1.length c0_1]] rfl (by (try simp only [List.map_toArray, List.map_cons, List.map_nil]); first | done | rfl | (simp only [List.length_drop, List.length_take]; rfl)) ?_; (with_reducible refine (laws_toHrdBook.calls k _ _ l0_0 _ _ l0_1 t194 t197 _ ?side1 ?side2 ?side3 ?side4 A12.out).mono ?_); (case side1 => exact Kd.C_below HR0_0.out (by repeat (first | (with_reducible first | exact HB.out | apply yA | apply yN | apply yD | refine yS ?_ GE178.out | refine yS ?_ GE193.out) | exact HB.out))); (case side2 => exact HC0_0.out); (case side3 => exact Kd.C_below HR0_1.out (by repeat (first | (with_reducible first | exact HB.out | apply yA | apply yN | apply yD | refine yS ?_ GE178.out | refine yS ?_ GE193.out) | exact HB.out))); (case side4 => exact HC0_1.out); rintro e w29 ⟨v195, v198, rfl, ho0, ho1, hb⟩; refine ⟨_, rfl, ?_⟩; have n0_ := qM (Kd.R_mono (Kd.R_told (Kd.R_told (Kd.R_old (by (with_reducible repeat (first | apply qA | apply qN | apply qD)); exact (Kd.R_mono (qF (p := ⟨gb193, 1, none⟩) (qF (p := ⟨gb193, 0, none⟩) (Kd.R_types HO182.out BK193.out (by decide)) (fun _ hk => hk.2) (.slice Ao24 t186.length co24)) (fun _ hk => hk.2) (.slice Ao27 t189.length co27)) (fun _ h_ => h_.1))) hb) (Kd.R_base ho0)) (Kd.R_base ho1)) (fun _ h_ => h_.1)); have n1_ := qM (Kd.R_mono (Kd.R_told (Kd.R_told (Kd.R_old (by (with_reducible repeat (first | apply qA | apply qN | apply qD)); exact (Kd.R_mono (qF (p := ⟨gb193, 1, none⟩) (qF (p := ⟨gb193, 0, none⟩) (Kd.R_types HO185.out BK193.out (by decide)) (fun _ hk => hk.2) (.slice Ao24 t186.length co24)) (fun _ hk => hk.2) (.slice Ao27 t189.length co27)) (fun _ h_ => h_.1))) hb) (Kd.R_base ho0)) (Kd.R_base ho1)) (fun _ h_ => h_.1)); have n2_ := qM (Kd.R_mono (Kd.R_told (Kd.R_told (Kd.R_old (by (with_reducible repeat (first | apply qA | apply qN | apply qD)); exact (Kd.R_mono (qF (p := ⟨gb193, 1, none⟩) (qF (p := ⟨gb193, 0, none⟩) (Kd.R_types HO188.out BK193.out (by decide)) (fun _ hk => hk.2) (.slice Ao24 t186.length co24)) (fun _ hk => hk.2) (.slice Ao27 t189.length co27)) (fun _ h_ => h_.1))) hb) (Kd.R_base ho0)) (Kd.R_base ho1)) (fun _ h_ => h_.1)); have n3_ := qM (Kd.R_mono (Kd.R_told (Kd.R_told (Kd.R_old (by (with_reducible repeat (first | apply qA | apply qN | apply qD)); exact (Kd.R_mono (qF (p := ⟨gb193, 1, none⟩) (qF (p := ⟨gb193, 0, none⟩) (Kd.R_types HO191.out BK193.out (by decide)) (fun _ hk => hk.2) (.slice Ao24 t186.length co24)) (fun _ hk => hk.2) (.slice Ao27 t189.length co27)) (fun _ h_ => h_.1))) hb) (Kd.R_base ho0)) (Kd.R_base ho1)) (fun _ h_ => h_.1)); have n4_ := qM (Kd.R_lower (Kd.R_new' (Kd.R_new' (Kd.R_new' (Kd.R_new' ho0 (Kd.R_lt (by (with_reducible repeat (first | apply qA | apply qN | apply qD)); exact (Kd.R_mono (qF (p := ⟨gb193, 1, none⟩) (qF (p := ⟨gb193, 0, none⟩) (Kd.R_types HO182.out BK193.out (by decide)) (fun _ hk => hk.2) (.slice Ao24 t186.length co24)) (fun _ hk => hk.2) (.slice Ao27 t189.length co27)) (fun _ h_ => h_.1))))) (Kd.R_lt (by (with_reducible repeat (first | apply qA | apply qN | apply qD)); exact (Kd.R_mono (qF (p := ⟨gb193, 1, none⟩) (qF (p := ⟨gb193, 0, none⟩) (Kd.R_types HO185.out BK193.out (by decide)) (fun _ hk => hk.2) (.slice Ao24 t186.length co24)) (fun _ hk => hk.2) (.slice Ao27 t189.length co27)) (fun _ h_ => h_.1))))) (Kd.R_lt (by (with_reducible repeat (first | apply qA | apply qN | apply qD)); exact (Kd.R_mono (qF (p := ⟨gb193, 1, none⟩) (qF (p := ⟨gb193, 0, none⟩) (Kd.R_types HO188.out BK193.out (by decide)) (fun _ hk => hk.2) (.slice Ao24 t186.length co24)) (fun _ hk => hk.2) (.slice Ao27 t189.length co27)) (fun _ h_ => h_.1))))) (Kd.R_lt (by (with_reducible repeat (first | apply qA | apply qN | apply qD)); exact (Kd.R_mono (qF (p := ⟨gb193, 1, none⟩) (qF (p := ⟨gb193, 0, none⟩) (Kd.R_types HO191.out BK193.out (by decide)) (fun _ hk => hk.2) (.slice Ao24 t186.length co24)) (fun _ hk => hk.2) (.slice Ao27 t189.length co27)) (fun _ h_ => h_.1))))) (below_size (by repeat (first | (with_reducible first | exact HB.out | apply yA | apply yN | apply yD | refine yS ?_ GE178.out | refine yS ?_ GE193.out) | exact HB.out)))); have n5_ := qM (Kd.R_lower (Kd.R_new' (Kd.R_new' (Kd.R_new' (Kd.R_new' ho1 (Kd.R_lt (by (with_reducible repeat (first | apply qA | apply qN | apply qD)); exact (Kd.R_mono (qF (p := ⟨gb193, 1, none⟩) (qF (p := ⟨gb193, 0, none⟩) (Kd.R_types HO182.out BK193.out (by decide)) (fun _ hk => hk.2) (.slice Ao24 t186.length co24)) (fun _ hk => hk.2) (.slice Ao27 t189.length co27)) (fun _ h_ => h_.1))))) (Kd.R_lt (by (with_reducible repeat (first | apply qA | apply qN | apply qD)); exact (Kd.R_mono (qF (p := ⟨gb193, 1, none⟩) (qF (p := ⟨gb193, 0, none⟩) (Kd.R_types HO185.out BK193.out (by decide)) (fun _ hk => hk.2) (.slice Ao24 t186.length co24)) (fun _ hk => hk.2) (.slice Ao27 t189.length co27)) (fun _ h_ => h_.1))))) (Kd.R_lt (by (with_reducible repeat (first | apply qA | apply qN | apply qD)); exact (Kd.R_mono (qF (p := ⟨gb193, 1, none⟩) (qF (p := ⟨gb193, 0, none⟩) (Kd.R_types HO188.out BK193.out (by decide)) (fun _ hk => hk.2) (.slice Ao24 t186.length co24)) (fun _ hk => hk.2) (.slice Ao27 t189.length co27)) (fun _ h_ => h_.1))))) (Kd.R_lt (by (with_reducible repeat (first | apply qA | apply qN | apply qD)); exact (Kd.R_mono (qF (p := ⟨gb193, 1, none⟩) (qF (p := ⟨gb193, 0, none⟩) (Kd.R_types HO191.out BK193.out (by decide)) (fun _ hk => hk.2) (.slice Ao24 t186.length co24)) (fun _ hk => hk.2) (.slice Ao27 t189.length co27)) (fun _ h_ => h_.1))))) (below_size (by repeat (first | (with_reducible first | exact HB.out | apply yA | apply yN | apply yD | refine yS ?_ GE178.out | refine yS ?_ GE193.out) | exact HB.out)))); have n6_ := qM (blk_below (g := gb178) (o := .cells #[.slice A0_0 l0_0.length c0_0, .slice A0_1 l0_1.length c0_1] 48 (0, 0)) (by (with_reducible repeat (first | refine zN ?_ _ | refine zD ?_ | refine zA ?_ _)); refine blk_far ?_ NB178_193.out _; (with_reducible repeat (first | refine zN ?_ _ | refine zD ?_ | refine zA ?_ _)); refine blk_far ?_ NB178_193.out _; (with_reducible repeat (first | refine zN ?_ _ | refine zD ?_ | refine zA ?_ _)); exact BK178.out) hb); have n7_ := qM (blk_below (g := gb193) (o := .cells #[.slice Ao24 t186.length co24, .slice Ao27 t189.length co27] 37 (0, 0)) (by (with_reducible repeat (first | refine zN ?_ _ | refine zD ?_ | refine zA ?_ _)); refine blk_put (cs := #[.slice Ao24 t186.length co24, .slice none 0 0]) ?_ 1 _ rfl; (with_reducible repeat (first | refine zN ?_ _ | refine zD ?_ | refine zA ?_ _)); refine blk_put (cs := #[.slice none 0 0, .slice none 0 0]) ?_ 0 _ rfl; (with_reducible repeat (first | refine zN ?_ _ | refine zD ?_ | refine zA ?_ _)); exact BK193.out) hb); have n8_ := qM (below_step (by repeat (first | (with_reducible first | exact HB.out | apply yA | apply yN | apply yD | refine yS ?_ GE178.out | refine yS ?_ GE193.out) | exact HB.out)) hb); clear HO182; clear HO185; clear HO188; clear HO191; clear BK178; clear BK193; clear HB; have HO182 := n0_; have HO185 := n1_; have HO188 := n2_; have HO191 := n3_; have HO196 := n4_; have HO199 := n5_; have BK178 := n6_; have BK193 := n7_; have HB := n8_; clear n0_ n1_ n2_ n3_ n4_ n5_ n6_ n7_ n8_; (try clear hb); (try clear hb2); (try clear hk); (try clear hi); (try clear ho0); (try clear ho1)) | ((with_reducible refine gate_dst (N := 12) rfl ?_); refine box_event ?hg (N := 12) ?hd (cs := #[.slice none 0 0, .slice none 0 0]) (t := 37) ?hr ?_; (case hd => rfl); (case hg => rfl); (case hr => first | (go_simp; done) | (go_simp; rfl)); intro gb200 hg w30 hbox hb; have n0_ := qM (Kd.R_below (by (with_reducible repeat (first | apply qA | apply qN | apply qD)); exact HO182.out) hb); have n1_ := qM (Kd.R_below (by (with_reducible repeat (first | apply qA | apply qN | apply qD)); exact HO185.out) hb); have n2_ := qM (Kd.R_below (by (with_reducible repeat (first | apply qA | apply qN | apply qD)); exact HO188.out) hb); have n3_ := qM (Kd.R_below (by (with_reducible repeat (first | apply qA | apply qN | apply qD)); exact HO191.out) hb); have n4_ := qM (Kd.R_below (by (with_reducible repeat (first | apply qA | apply qN | apply qD)); exact HO196.out) hb); have n5_ := qM (Kd.R_below (by (with_reducible repeat (first | apply qA | apply qN | apply qD)); exact HO199.out) hb); have n6_ := qM (blk_below (g := gb178) (o := .cells #[.slice A0_0 l0_0.length c0_0, .slice A0_1 l0_1.length c0_1] 48 (0, 0)) (by (with_reducible repeat (first | refine zN ?_ _ | refine zD ?_ | refine zA ?_ _)); exact BK178.out) hb); have n7_ := qM (blk_below (g := gb193) (o := .cells #[.slice Ao24 t186.length co24, .slice Ao27 t189.length co27] 37 (0, 0)) (by (with_reducible repeat (first | refine zN ?_ _ | refine zD ?_ | refine zA ?_ _)); exact BK193.out) hb); have n8_ := qM (below_step (by repeat (first | (with_reducible first | exact HB.out | apply yA | apply yN | apply yD | refine yS ?_ GE178.out | refine yS ?_ GE193.out) | exact HB.out)) hb); have n9_ := qM (hbox); have n10_ := qM ((by rw [hg]; exact (below_size (by repeat (first | (with_reducible first | exact HB.out | apply yA | apply yN | apply yD | refine yS ?_ GE178.out | refine yS ?_ GE193.out) | exact HB.out))) : w.heap.size ≤ gb200)); have n11_ := qM ((by rw [hg]; exact (below_size (by repeat (first | (with_reducible first | exact HB.out | apply yA | apply yN | apply yD | refine yS ?_ GE178.out | refine yS ?_ GE193.out) | exact HB.out))) : w.heap.size ≤ gb200)); have n12_ := qM ((by rw [hg]; exact Nat.ne_of_lt (blk_lt (g := gb178) (o := .cells #[.slice A0_0 l0_0.length c0_0, .slice A0_1 l0_1.length c0_1] 48 (0, 0)) (by (with_reducible repeat (first | refine zN ?_ _ | refine zD ?_ | refine zA ?_ _)); exact BK178.out)) : gb178 ≠ gb200)); have n13_ := qM ((by rw [hg]; exact Nat.ne_of_gt (blk_lt (g := gb178) (o := .cells #[.slice A0_0 l0_0.length c0_0, .slice A0_1 l0_1.length c0_1] 48 (0, 0)) (by (with_reducible repeat (first | refine zN ?_ _ | refine zD ?_ | refine zA ?_ _)); exact BK178.out)) : gb200 ≠ gb178)); have n14_ := qM ((by rw [hg]; exact Nat.ne_of_lt (blk_lt (g := gb193) (o := .cells #[.slice Ao24 t186.length co24, .slice Ao27 t189.length co27] 37 (0, 0)) (by (with_reducible repeat (first | refine zN ?_ _ | refine zD ?_ | refine zA ?_ _)); exact BK193.out)) : gb193 ≠ gb200)); have n15_ := qM ((by rw [hg]; exact Nat.ne_of_gt (blk_lt (g := gb193) (o := .cells #[.slice Ao24 t186.length co24, .slice Ao27 t189.length co27] 37 (0, 0)) (by (with_reducible repeat (first | refine zN ?_ _ | refine zD ?_ | refine zA ?_ _)); exact BK193.out)) : gb200 ≠ gb193)); clear HO182; clear HO185; clear HO188; clear HO191; clear HO196; clear HO199; clear BK178; clear BK193; clear HB; have HO182 := n0_; have HO185 := n1_; have HO188 := n2_; have HO191 := n3_; have HO196 := n4_; have HO199 := n5_; have BK178 := n6_; have BK193 := n7_; have HB := n8_; have BK200 := n9_; have GW200 := n10_; have GE200 := n11_; have NB178_200 := n12_; have NB200_178 := n13_; have NB193_200 := n14_; have NB200_193 := n15_; clear n0_ n1_ n2_ n3_ n4_ n5_ n6_ n7_ n8_ n9_ n10_ n11_ n12_ n13_ n14_ n15_; clear hb hbox hg; obtain ⟨Ao31, co31, eo31⟩ := Kd.R_slice HO196.out; subst eo31; have hnb32 := NB200_178.out; have hnc32 := NB178_200.out; have hnb33 := NB200_193.out; have hnc33 := NB193_200.out; have hcz34_0 : w30.cell? ⟨gb200, 0, none⟩ = some (.slice none 0 0) := (zC BK200.out 0).trans rfl; have hcz34_1 : w30.cell? ⟨gb200, 1, none⟩ = some (.slice none 0 0) := (zC BK200.out 1).trans rfl; have hfz34_0 := zF BK200.out 0; have hfz34_1 := zF BK200.out 1; obtain ⟨Ao35, co35, eo35⟩ := Kd.R_slice HO199.out; subst eo35) | ((with_reducible refine gate_callee (f := 26) rfl ?_); refine goesL_ (some 41) rfl rfl Try.func26 (by kernel_rfl) rfl #[.agg #[.slice Ao31 t194.length co31, .slice Ao35 t197.length co35], .int .i64 a1, .int .i64 a2, .int .i64 a3] rfl (by (try simp only [List.map_toArray, List.map_cons, List.map_nil]); first | done | rfl | (simp only [List.length_drop, List.length_take]; rfl)) ?_; (with_reducible refine (impl_HrdHear.calls _ _ t194 _ _ t197 a1 a2 a3 t201 t204 t207 _ ?side1 ?side2 ?side3 ?side4 A13.out).mono ?_); (case side1 => refine (qR (e := 3) (base := w.heap.size) (ok := fun k_ => ((((some k_ ≠ (.slice Ao35 t197.length co35 : Value).ownBlock ∧ some k_ ≠ (.slice Ao20 t180.length co20 : Value).ownBlock) ∧ some k_ ≠ (.slice Ao21 t183.length co21 : Value).ownBlock) ∧ some k_ ≠ (.slice Ao24 t186.length co24 : Value).ownBlock) ∧ some k_ ≠ (.slice Ao27 t189.length co27 : Value).ownBlock)) (n := t194.length) (c := co31) ?_).2.2; exact (by (with_reducible repeat (first | apply qA | apply qN | apply qD)); exact (Kd.R_mono (qF (p := ⟨gb200, 1, none⟩) (qF (p := ⟨gb200, 0, none⟩) (Kd.R_types HO196.out BK200.out (by decide)) (fun _ hk => hk.2) (.slice Ao31 t194.length co31)) (fun _ hk => hk.2) (.slice Ao35 t197.length co35)) (fun _ h_ => h_.1)))); (case side2 => exact (qR HO196.out).2.1); (case side3 => refine (qR (e := 3) (base := w.heap.size) (ok := fun k_ => ((((some k_ ≠ (.slice Ao31 t194.length co31 : Value).ownBlock ∧ some k_ ≠ (.slice Ao20 t180.length co20 : Value).ownBlock) ∧ some k_ ≠ (.slice Ao21 t183.length co21 : Value).ownBlock) ∧ some k_ ≠ (.slice Ao24 t186.length co24 : Value).ownBlock) ∧ some k_ ≠ (.slice Ao27 t189.length co27 : Value).ownBlock)) (n := t197.length) (c := co35) ?_).2.2; exact (by (with_reducible repeat (first | apply qA | apply qN | apply qD)); exact (Kd.R_mono (qF (p := ⟨gb200, 1, none⟩) (qF (p := ⟨gb200, 0, none⟩) (Kd.R_types HO199.out BK200.out (by decide)) (fun _ hk => hk.2) (.slice Ao31 t194.length co31)) (fun _ hk => hk.2) (.slice Ao35 t197.length co35)) (fun _ h_ => h_.1)))); (case side4 => exact (qR HO199.out).2.1); rintro e w36 ⟨v202, v205, rfl, ho0, ho1, hb⟩; refine ⟨_, rfl, ?_⟩; have n0_ := qM (Kd.R_mono (Kd.R_told (Kd.R_told (Kd.R_old (by (with_reducible repeat (first | apply qA | apply qN | apply qD)); exact (Kd.R_mono (qF (p := ⟨gb200, 1, none⟩) (qF (p := ⟨gb200, 0, none⟩) (Kd.R_types HO182.out BK200.out (by decide)) (fun _ hk => hk.2) (.slice Ao31 t194.length co31)) (fun _ hk => hk.2) (.slice Ao35 t197.length co35)) (fun _ h_ => h_.1))) hb) (Kd.R_base ho0)) (Kd.R_base ho1)) (fun _ h_ => h_.1)); have n1_ := qM (Kd.R_mono (Kd.R_told (Kd.R_told (Kd.R_old (by (with_reducible repeat (first | apply qA | apply qN | apply qD)); exact (Kd.R_mono (qF (p := ⟨gb200, 1, none⟩) (qF (p := ⟨gb200, 0, none⟩) (Kd.R_types HO185.out BK200.out (by decide)) (fun _ hk => hk.2) (.slice Ao31 t194.length co31)) (fun _ hk => hk.2) (.slice Ao35 t197.length co35)) (fun _ h_ => h_.1))) hb) (Kd.R_base ho0)) (Kd.R_base ho1)) (fun _ h_ => h_.1)); have n2_ := qM (Kd.R_mono (Kd.R_told (Kd.R_told (Kd.R_old (by (with_reducible repeat (first | apply qA | apply qN | apply qD)); exact (Kd.R_mono (qF (p := ⟨gb200, 1, none⟩) (qF (p := ⟨gb200, 0, none⟩) (Kd.R_types HO188.out BK200.out (by decide)) (fun _ hk => hk.2) (.slice Ao31 t194.length co31)) (fun _ hk => hk.2) (.slice Ao35 t197.length co35)) (fun _ h_ => h_.1))) hb) (Kd.R_base ho0)) (Kd.R_base ho1)) (fun _ h_ => h_.1)); have n3_ := qM (Kd.R_mono (Kd.R_told (Kd.R_told (Kd.R_old (by (with_reducible repeat (first | apply qA | apply qN | apply qD)); exact (Kd.R_mono (qF (p := ⟨gb200, 1, none⟩) (qF (p := ⟨gb200, 0, none⟩) (Kd.R_types HO191.out BK200.out (by decide)) (fun _ hk => hk.2) (.slice Ao31 t194.length co31)) (fun _ hk => hk.2) (.slice Ao35 t197.length co35)) (fun _ h_ => h_.1))) hb) (Kd.R_base ho0)) (Kd.R_base ho1)) (fun _ h_ => h_.1)); have n4_ := qM (Kd.R_mono (Kd.R_told (Kd.R_told (Kd.R_old (by (with_reducible repeat (first | apply qA | apply qN | apply qD)); exact (Kd.R_mono (qF (p := ⟨gb200, 1, none⟩) (qF (p := ⟨gb200, 0, none⟩) (Kd.R_types HO196.out BK200.out (by decide)) (fun _ hk => hk.2) (.slice Ao31 t194.length co31)) (fun _ hk => hk.2) (.slice Ao35 t197.length co35)) (fun _ h_ => h_.1))) hb) (Kd.R_base ho0)) (Kd.R_base ho1)) (fun _ h_ => h_.1)); have n5_ := qM (Kd.R_mono (Kd.R_told (Kd.R_told (Kd.R_old (by (with_reducible repeat (first | apply qA | apply qN | apply qD)); exact (Kd.R_mono (qF (p := ⟨gb200, 1, none⟩) (qF (p := ⟨gb200, 0, none⟩) (Kd.R_types HO199.out BK200.out (by decide)) (fun _ hk => hk.2) (.slice Ao31 t194.length co31)) (fun _ hk => hk.2) (.slice Ao35 t197.length co35)) (fun _ h_ => h_.1))) hb) (Kd.R_base ho0)) (Kd.R_base ho1)) (fun _ h_ => h_.1)); have n6_ := qM (Kd.R_lower (Kd.R_new' (Kd.R_new' (Kd.R_new' (Kd.R_new' (Kd.R_new' (Kd.R_new' ho0 (Kd.R_lt (by (with_reducible repeat (first | apply qA | apply qN | apply qD)); exact (Kd.R_mono (qF (p := ⟨gb200, 1, none⟩) (qF (p := ⟨gb200, 0, none⟩) (Kd.R_types HO182.out BK200.out (by decide)) (fun _ hk => hk.2) (.slice Ao31 t194.length co31)) (fun _ hk => hk.2) (.slice Ao35 t197.length co35)) (fun _ h_ => h_.1))))) (Kd.R_lt (by (with_reducible repeat (first | apply qA | apply qN | apply qD)); exact (Kd.R_mono (qF (p := ⟨gb200, 1, none⟩) (qF (p := ⟨gb200, 0, none⟩) (Kd.R_types HO185.out BK200.out (by decide)) (fun _ hk => hk.2) (.slice Ao31 t194.length co31)) (fun _ hk => hk.2) (.slice Ao35 t197.length co35)) (fun _ h_ => h_.1))))) (Kd.R_lt (by (with_reducible repeat (first | apply qA | apply qN | apply qD)); exact (Kd.R_mono (qF (p := ⟨gb200, 1, none⟩) (qF (p := ⟨gb200, 0, none⟩) (Kd.R_types HO188.out BK200.out (by decide)) (fun _ hk => hk.2) (.slice Ao31 t194.length co31)) (fun _ hk => hk.2) (.slice Ao35 t197.length co35)) (fun _ h_ => h_.1))))) (Kd.R_lt (by (with_reducible repeat (first | apply qA | apply qN | apply qD)); exact (Kd.R_mono (qF (p := ⟨gb200, 1, none⟩) (qF (p := ⟨gb200, 0, none⟩) (Kd.R_types HO191.out BK200.out (by decide)) (fun _ hk => hk.2) (.slice Ao31 t194.length co31)) (fun _ hk => hk.2) (.slice Ao35 t197.length co35)) (fun _ h_ => h_.1))))) (Kd.R_lt (by (with_reducible repeat (first | apply qA | apply qN | apply qD)); exact (Kd.R_mono (qF (p := ⟨gb200, 1, none⟩) (qF (p := ⟨gb200, 0, none⟩) (Kd.R_types HO196.out BK200.out (by decide)) (fun _ hk => hk.2) (.slice Ao31 t194.length co31)) (fun _ hk => hk.2) (.slice Ao35 t197.length co35)) (fun _ h_ => h_.1))))) (Kd.R_lt (by (with_reducible repeat (first | apply qA | apply qN | apply qD)); exact (Kd.R_mono (qF (p := ⟨gb200, 1, none⟩) (qF (p := ⟨gb200, 0, none⟩) (Kd.R_types HO199.out BK200.out (by decide)) (fun _ hk => hk.2) (.slice Ao31 t194.length co31)) (fun _ hk => hk.2) (.slice Ao35 t197.length co35)) (fun _ h_ => h_.1))))) (below_size (by repeat (first | (with_reducible first | exact HB.out | apply yA | apply yN | apply yD | refine yS ?_ GE178.out | refine yS ?_ GE193.out | refine yS ?_ GE200.out) | exact HB.out)))); have n7_ := qM (Kd.R_lower (Kd.R_new' (Kd.R_new' (Kd.R_new' (Kd.R_new' (Kd.R_new' (Kd.R_new' ho1 (Kd.R_lt (by (with_reducible repeat (first | apply qA | apply qN | apply qD)); exact (Kd.R_mono (qF (p := ⟨gb200, 1, none⟩) (qF (p := ⟨gb200, 0, none⟩) (Kd.R_types HO182.out BK200.out (by decide)) (fun _ hk => hk.2) (.slice Ao31 t194.length co31)) (fun _ hk => hk.2) (.slice Ao35 t197.length co35)) (fun _ h_ => h_.1))))) (Kd.R_lt (by (with_reducible repeat (first | apply qA | apply qN | apply qD)); exact (Kd.R_mono (qF (p := ⟨gb200, 1, none⟩) (qF (p := ⟨gb200, 0, none⟩) (Kd.R_types HO185.out BK200.out (by decide)) (fun _ hk => hk.2) (.slice Ao31 t194.length co31)) (fun _ hk => hk.2) (.slice Ao35 t197.length co35)) (fun _ h_ => h_.1))))) (Kd.R_lt (by (with_reducible repeat (first | apply qA | apply qN | apply qD)); exact (Kd.R_mono (qF (p := ⟨gb200, 1, none⟩) (qF (p := ⟨gb200, 0, none⟩) (Kd.R_types HO188.out BK200.out (by decide)) (fun _ hk => hk.2) (.slice Ao31 t194.length co31)) (fun _ hk => hk.2) (.slice Ao35 t197.length co35)) (fun _ h_ => h_.1))))) (Kd.R_lt (by (with_reducible repeat (first | apply qA | apply qN | apply qD)); exact (Kd.R_mono (qF (p := ⟨gb200, 1, none⟩) (qF (p := ⟨gb200, 0, none⟩) (Kd.R_types HO191.out BK200.out (by decide)) (fun _ hk => hk.2) (.slice Ao31 t194.length co31)) (fun _ hk => hk.2) (.slice Ao35 t197.length co35)) (fun _ h_ => h_.1))))) (Kd.R_lt (by (with_reducible repeat (first | apply qA | apply qN | apply qD)); exact (Kd.R_mono (qF (p := ⟨gb200, 1, none⟩) (qF (p := ⟨gb200, 0, none⟩) (Kd.R_types HO196.out BK200.out (by decide)) (fun _ hk => hk.2) (.slice Ao31 t194.length co31)) (fun _ hk => hk.2) (.slice Ao35 t197.length co35)) (fun _ h_ => h_.1))))) (Kd.R_lt (by (with_reducible repeat (first | apply qA | apply qN | apply qD)); exact (Kd.R_mono (qF (p := ⟨gb200, 1, none⟩) (qF (p := ⟨gb200, 0, none⟩) (Kd.R_types HO199.out BK200.out (by decide)) (fun _ hk => hk.2) (.slice Ao31 t194.length co31)) (fun _ hk => hk.2) (.slice Ao35 t197.length co35)) (fun _ h_ => h_.1))))) (below_size (by repeat (first | (with_reducible first | exact HB.out | apply yA | apply yN | apply yD | refine yS ?_ GE178.out | refine yS ?_ GE193.out | refine yS ?_ GE200.out) | exact HB.out)))); have n8_ := qM (blk_below (g := gb178) (o := .cells #[.slice A0_0 l0_0.length c0_0, .slice A0_1 l0_1.length c0_1] 48 (0, 0)) (by (with_reducible repeat (first | refine zN ?_ _ | refine zD ?_ | refine zA ?_ _)); refine blk_far ?_ NB178_200.out _; (with_reducible repeat (first | refine zN ?_ _ | refine zD ?_ | refine zA ?_ _)); refine blk_far ?_ NB178_200.out _; (with_reducible repeat (first | refine zN ?_ _ | refine zD ?_ | refine zA ?_ _)); exact BK178.out) hb); have n9_ := qM (blk_below (g := gb193) (o := .cells #[.slice Ao24 t186.length co24, .slice Ao27 t189.length co27] 37 (0, 0)) (by (with_reducible repeat (first | refine zN ?_ _ | refine zD ?_ | refine zA ?_ _)); refine blk_far ?_ NB193_200.out _; (with_reducible repeat (first | refine zN ?_ _ | refine zD ?_ | refine zA ?_ _)); refine blk_far ?_ NB193_200.out _; (with_reducible repeat (first | refine zN ?_ _ | refine zD ?_ | refine zA ?_ _)); exact BK193.out) hb); have n10_ := qM (blk_below (g := gb200) (o := .cells #[.slice Ao31 t194.length co31, .slice Ao35 t197.length co35] 37 (0, 0)) (by (with_reducible repeat (first | refine zN ?_ _ | refine zD ?_ | refine zA ?_ _)); refine blk_put (cs := #[.slice Ao31 t194.length co31, .slice none 0 0]) ?_ 1 _ rfl; (with_reducible repeat (first | refine zN ?_ _ | refine zD ?_ | refine zA ?_ _)); refine blk_put (cs := #[.slice none 0 0, .slice none 0 0]) ?_ 0 _ rfl; (with_reducible repeat (first | refine zN ?_ _ | refine zD ?_ | refine zA ?_ _)); exact BK200.out) hb); have n11_ := qM (below_step (by repeat (first | (with_reducible first | exact HB.out | apply yA | apply yN | apply yD | refine yS ?_ GE178.out | refine yS ?_ GE193.out | refine yS ?_ GE200.out) | exact HB.out)) hb); clear HO182; clear HO185; clear HO188; clear HO191; clear HO196; clear HO199; clear BK178; clear BK193; clear BK200; clear HB; have HO182 := n0_; have HO185 := n1_; have HO188 := n2_; have HO191 := n3_; have HO196 := n4_; have HO199 := n5_; have HO203 := n6_; have HO206 := n7_; have BK178 := n8_; have BK193 := n9_; have BK200 := n10_; have HB := n11_; clear n0_ n1_ n2_ n3_ n4_ n5_ n6_ n7_ n8_ n9_ n10_ n11_; (try clear hb); (try clear hb2); (try clear hk); (try clear hi); (try clear ho0); (try clear ho1)) | ((with_reducible refine gate_dst (N := 13) rfl ?_); refine box_event ?hg (N := 13) ?hd (cs := #[.slice none 0 0, .slice none 0 0]) (t := 37) ?hr ?_; (case hd => rfl); (case hg => rfl); (case hr => first | (go_simp; done) | (go_simp; rfl)); intro gb208 hg w37 hbox hb; have n0_ := qM (Kd.R_below (by (with_reducible repeat (first | apply qA | apply qN | apply qD)); exact HO182.out) hb); have n1_ := qM (Kd.R_below (by (with_reducible repeat (first | apply qA | apply qN | apply qD)); exact HO185.out) hb); have n2_ := qM (Kd.R_below (by (with_reducible repeat (first | apply qA | apply qN | apply qD)); exact HO188.out) hb); have n3_ := qM (Kd.R_below (by (with_reducible repeat (first | apply qA | apply qN | apply qD)); exact HO191.out) hb); have n4_ := qM (Kd.R_below (by (with_reducible repeat (first | apply qA | apply qN | apply qD)); exact HO196.out) hb); have n5_ := qM (Kd.R_below (by (with_reducible repeat (first | apply qA | apply qN | apply qD)); exact HO199.out) hb); have n6_ := qM (Kd.R_below (by (with_reducible repeat (first | apply qA | apply qN | apply qD)); exact HO203.out) hb); have n7_ := qM (Kd.R_below (by (with_reducible repeat (first | apply qA | apply qN | apply qD)); exact HO206.out) hb); have n8_ := qM (blk_below (g := gb178) (o := .cells #[.slice A0_0 l0_0.length c0_0, .slice A0_1 l0_1.length c0_1] 48 (0, 0)) (by (with_reducible repeat (first | refine zN ?_ _ | refine zD ?_ | refine zA ?_ _)); exact BK178.out) hb); have n9_ := qM (blk_below (g := gb193) (o := .cells #[.slice Ao24 t186.length co24, .slice Ao27 t189.length co27] 37 (0, 0)) (by (with_reducible repeat (first | refine zN ?_ _ | refine zD ?_ | refine zA ?_ _)); exact BK193.out) hb); have n10_ := qM (blk_below (g := gb200) (o := .cells #[.slice Ao31 t194.length co31, .slice Ao35 t197.length co35] 37 (0, 0)) (by (with_reducible repeat (first | refine zN ?_ _ | refine zD ?_ | refine zA ?_ _)); exact BK200.out) hb); have n11_ := qM (below_step (by repeat (first | (with_reducible first | exact HB.out | apply yA | apply yN | apply yD | refine yS ?_ GE178.out | refine yS ?_ GE193.out | refine yS ?_ GE200.out) | exact HB.out)) hb); have n12_ := qM (hbox); have n13_ := qM ((by rw [hg]; exact (below_size (by repeat (first | (with_reducible first | exact HB.out | apply yA | apply yN | apply yD | refine yS ?_ GE178.out | refine yS ?_ GE193.out | refine yS ?_ GE200.out) | exact HB.out))) : w.heap.size ≤ gb208)); have n14_ := qM ((by rw [hg]; exact (below_size (by repeat (first | (with_reducible first | exact HB.out | apply yA | apply yN | apply yD | refine yS ?_ GE178.out | refine yS ?_ GE193.out | refine yS ?_ GE200.out) | exact HB.out))) : w.heap.size ≤ gb208)); have n15_ := qM ((by rw [hg]; exact Nat.ne_of_lt (blk_lt (g := gb178) (o := .cells #[.slice A0_0 l0_0.length c0_0, .slice A0_1 l0_1.length c0_1] 48 (0, 0)) (by (with_reducible repeat (first | refine zN ?_ _ | refine zD ?_ | refine zA ?_ _)); exact BK178.out)) : gb178 ≠ gb208)); have n16_ := qM ((by rw [hg]; exact Nat.ne_of_gt (blk_lt (g := gb178) (o := .cells #[.slice A0_0 l0_0.length c0_0, .slice A0_1 l0_1.length c0_1] 48 (0, 0)) (by (with_reducible repeat (first | refine zN ?_ _ | refine zD ?_ | refine zA ?_ _)); exact BK178.out)) : gb208 ≠ gb178)); have n17_ := qM ((by rw [hg]; exact Nat.ne_of_lt (blk_lt (g := gb193) (o := .cells #[.slice Ao24 t186.length co24, .slice Ao27 t189.length co27] 37 (0, 0)) (by (with_reducible repeat (first | refine zN ?_ _ | refine zD ?_ | refine zA ?_ _)); exact BK193.out)) : gb193 ≠ gb208)); have n18_ := qM ((by rw [hg]; exact Nat.ne_of_gt (blk_lt (g := gb193) (o := .cells #[.slice Ao24 t186.length co24, .slice Ao27 t189.length co27] 37 (0, 0)) (by (with_reducible repeat (first | refine zN ?_ _ | refine zD ?_ | refine zA ?_ _)); exact BK193.out)) : gb208 ≠ gb193)); have n19_ := qM ((by rw [hg]; exact Nat.ne_of_lt (blk_lt (g := gb200) (o := .cells #[.slice Ao31 t194.length co31, .slice Ao35 t197.length co35] 37 (0, 0)) (by (with_reducible repeat (first | refine zN ?_ _ | refine zD ?_ | refine zA ?_ _)); exact BK200.out)) : gb200 ≠ gb208)); have n20_ := qM ((by rw [hg]; exact Nat.ne_of_gt (blk_lt (g := gb200) (o := .cells #[.slice Ao31 t194.length co31, .slice Ao35 t197.length co35] 37 (0, 0)) (by (with_reducible repeat (first | refine zN ?_ _ | refine zD ?_ | refine zA ?_ _)); exact BK200.out)) : gb208 ≠ gb200)); clear HO182; clear HO185; clear HO188; clear HO191; clear HO196; clear HO199; clear HO203; clear HO206; clear BK178; clear BK193; clear BK200; clear HB; have HO182 := n0_; have HO185 := n1_; have HO188 := n2_; have HO191 := n3_; have HO196 := n4_; have HO199 := n5_; have HO203 := n6_; have HO206 := n7_; have BK178 := n8_; have BK193 := n9_; have BK200 := n10_; have HB := n11_; have BK208 := n12_; have GW208 := n13_; have GE208 := n14_; have NB178_208 := n15_; have NB208_178 := n16_; have NB193_208 := n17_; have NB208_193 := n18_; have NB200_208 := n19_; have NB208_200 := n20_; clear n0_ n1_ n2_ n3_ n4_ n5_ n6_ n7_ n8_ n9_ n10_ n11_ n12_ n13_ n14_ n15_ n16_ n17_ n18_ n19_ n20_; clear hb hbox hg; obtain ⟨Ao38, co38, eo38⟩ := Kd.R_slice HO203.out; subst eo38; have hnb39 := NB208_178.out; have hnc39 := NB178_208.out; have hnb40 := NB208_193.out; have hnc40 := NB193_208.out; have hnb41 := NB208_200.out; have hnc41 := NB200_208.out; have hcz42_0 : w37.cell? ⟨gb208, 0, none⟩ = some (.slice none 0 0) := (zC BK208.out 0).trans rfl; have hcz42_1 : w37.cell? ⟨gb208, 1, none⟩ = some (.slice none 0 0) := (zC BK208.out 1).trans rfl; have hfz42_0 := zF BK208.out 0; have hfz42_1 := zF BK208.out 1; obtain ⟨Ao43, co43, eo43⟩ := Kd.R_slice HO206.out; subst eo43))
  (try simp only [Act.put, List.setIfInBounds_toArray, List.set_cons_zero, List.set_cons_succ])
  go_cut [52] (fun v52 wc => ∃ (kq : Nat) (x52_13 : Bool), v52 = .bool x52_13 ∧ Aside0 (laws_FnExactHrdHear.j0 kq a1 a2 a3 t192 t207 x52_13 l0_0 l0_1 t186 t189 t194 t197 t201 t204 = some r) ∧ Aside0 (kq ≤ k) ∧ Aside0 (Kd.R (Kd.int .i64) 3 wc w.heap.size (fun k_ => some k_ ≠ ((.slice Ao27 t189.length co27) : Value).ownBlock ∧ some k_ ≠ ((.slice Ao31 t194.length co31) : Value).ownBlock ∧ some k_ ≠ ((.slice Ao35 t197.length co35) : Value).ownBlock ∧ some k_ ≠ ((.slice Ao38 t201.length co38) : Value).ownBlock ∧ some k_ ≠ ((.slice Ao43 t204.length co43) : Value).ownBlock) (.slice Ao24 t186.length co24) t186) ∧ Aside0 (Kd.R (Kd.int .i64) 3 wc w.heap.size (fun k_ => some k_ ≠ ((.slice Ao24 t186.length co24) : Value).ownBlock ∧ some k_ ≠ ((.slice Ao31 t194.length co31) : Value).ownBlock ∧ some k_ ≠ ((.slice Ao35 t197.length co35) : Value).ownBlock ∧ some k_ ≠ ((.slice Ao38 t201.length co38) : Value).ownBlock ∧ some k_ ≠ ((.slice Ao43 t204.length co43) : Value).ownBlock) (.slice Ao27 t189.length co27) t189) ∧ Aside0 (Kd.R (Kd.int .i64) 3 wc w.heap.size (fun k_ => some k_ ≠ ((.slice Ao24 t186.length co24) : Value).ownBlock ∧ some k_ ≠ ((.slice Ao27 t189.length co27) : Value).ownBlock ∧ some k_ ≠ ((.slice Ao35 t197.length co35) : Value).ownBlock ∧ some k_ ≠ ((.slice Ao38 t201.length co38) : Value).ownBlock ∧ some k_ ≠ ((.slice Ao43 t204.length co43) : Value).ownBlock) (.slice Ao31 t194.length co31) t194) ∧ Aside0 (Kd.R (Kd.int .i64) 3 wc w.heap.size (fun k_ => some k_ ≠ ((.slice Ao24 t186.length co24) : Value).ownBlock ∧ some k_ ≠ ((.slice Ao27 t189.length co27) : Value).ownBlock ∧ some k_ ≠ ((.slice Ao31 t194.length co31) : Value).ownBlock ∧ some k_ ≠ ((.slice Ao38 t201.length co38) : Value).ownBlock ∧ some k_ ≠ ((.slice Ao43 t204.length co43) : Value).ownBlock) (.slice Ao35 t197.length co35) t197) ∧ Aside0 (Kd.R (Kd.int .i64) 3 wc w.heap.size (fun k_ => some k_ ≠ ((.slice Ao24 t186.length co24) : Value).ownBlock ∧ some k_ ≠ ((.slice Ao27 t189.length co27) : Value).ownBlock ∧ some k_ ≠ ((.slice Ao31 t194.length co31) : Value).ownBlock ∧ some k_ ≠ ((.slice Ao35 t197.length co35) : Value).ownBlock ∧ some k_ ≠ ((.slice Ao43 t204.length co43) : Value).ownBlock) (.slice Ao38 t201.length co38) t201) ∧ Aside0 (Kd.R (Kd.int .i64) 3 wc w.heap.size (fun k_ => some k_ ≠ ((.slice Ao24 t186.length co24) : Value).ownBlock ∧ some k_ ≠ ((.slice Ao27 t189.length co27) : Value).ownBlock ∧ some k_ ≠ ((.slice Ao31 t194.length co31) : Value).ownBlock ∧ some k_ ≠ ((.slice Ao35 t197.length co35) : Value).ownBlock ∧ some k_ ≠ ((.slice Ao38 t201.length co38) : Value).ownBlock) (.slice Ao43 t204.length co43) t204) ∧ Aside0 (wc.heap[gb178]? = some (.cells #[(.slice A0_0 l0_0.length c0_0), (.slice A0_1 l0_1.length c0_1)] 48 (0, 0))) ∧ Aside0 (wc.heap[gb193]? = some (.cells #[(.slice Ao24 t186.length co24), (.slice Ao27 t189.length co27)] 37 (0, 0))) ∧ Aside0 (wc.heap[gb200]? = some (.cells #[(.slice Ao31 t194.length co31), (.slice Ao35 t197.length co35)] 37 (0, 0))) ∧ Aside0 (wc.heap[gb208]? = some (.cells #[(.slice Ao38 t201.length co38), (.slice Ao43 t204.length co43)] 37 (0, 0))) ∧ Aside0 (Below w.heap.size w wc))
  case first =>
   have H := HC14.out
   clear HC14
   replace H := Option.bind_eq_some_iff.mp H
   obtain ⟨t209, A440, H⟩ := H
   replace H : (if t209 = true then (laws_FnExactHrdHear.j0 k a1 a2 a3 t192 t207 (t207 != t192) l0_0 l0_1 t186 t189 t194 t197 t201 t204) else (laws_FnExactHrdHear.j0 k a1 a2 a3 t192 t207 true l0_0 l0_1 t186 t189 t194 t197 t201 t204)) = some r := H
   have A44 := qM A440
   clear A440
   by_cases c45 : t209 = true
   ·subst c45
    have H1 : (laws_FnExactHrdHear.j0 k a1 a2 a3 t192 t207 (t207 != t192) l0_0 l0_1 t186 t189 t194 t197 t201 t204) = some r := by rw [if_pos rfl] at H; exact H
    clear H
    have H := H1
    clear H1
    have H' := qM H
    clear H
    have hnb46 := NB208_178.out
    have hnc46 := NB178_208.out
    have hnb47 := NB208_193.out
    have hnc47 := NB193_208.out
    have hnb48 := NB208_200.out
    have hnc48 := NB200_208.out
    have hcz49_0 : w37.cell? ⟨gb208, 0, none⟩ = some (.slice none 0 0) := (zC BK208.out 0).trans rfl
    have hcz49_1 : w37.cell? ⟨gb208, 1, none⟩ = some (.slice none 0 0) := (zC BK208.out 1).trans rfl
    have hfz49_0 := zF BK208.out 0
    have hfz49_1 := zF BK208.out 1
    have hnb50 := NB193_178.out
    have hnc50 := NB178_193.out
    have hnb51 := NB193_200.out
    have hnc51 := NB200_193.out
    have hcz52_0 : w37.cell? ⟨gb193, 0, none⟩ = some (.slice Ao24 t186.length co24) := (zC BK193.out 0).trans rfl
    have hcz52_1 : w37.cell? ⟨gb193, 1, none⟩ = some (.slice Ao27 t189.length co27) := (zC BK193.out 1).trans rfl
    have hfz52_0 := zF BK193.out 0
    have hfz52_1 := zF BK193.out 1
    go_wp2_with (first | ((with_reducible refine gate_callee (f := 22) rfl ?_); refine goesL_ (some 46) rfl rfl Try.func22 (by kernel_rfl) rfl #[.agg #[.slice Ao38 t201.length co38, .slice Ao43 t204.length co43], .agg #[.slice Ao24 t186.length co24, .slice Ao27 t189.length co27]] rfl (by (try simp only [List.map_toArray, List.map_cons, List.map_nil]); first | done | rfl | (simp only [List.length_drop, List.length_take]; rfl)) ?_; (with_reducible refine (laws_eqHrdBook.calls k _ _ t201 _ _ t204 _ _ t186 _ _ t189 true _ ?side1 ?side2 ?side3 ?side4 ?side5 ?side6 ?side7 ?side8 A44.out).mono ?_); (case side1 => refine (qR (e := 3) (base := w.heap.size) (ok := fun k_ => ((((((some k_ ≠ (.slice Ao43 t204.length co43 : Value).ownBlock ∧ some k_ ≠ (.slice Ao20 t180.length co20 : Value).ownBlock) ∧ some k_ ≠ (.slice Ao21 t183.length co21 : Value).ownBlock) ∧ some k_ ≠ (.slice Ao24 t186.length co24 : Value).ownBlock) ∧ some k_ ≠ (.slice Ao27 t189.length co27 : Value).ownBlock) ∧ some k_ ≠ (.slice Ao31 t194.length co31 : Value).ownBlock) ∧ some k_ ≠ (.slice Ao35 t197.length co35 : Value).ownBlock)) (n := t201.length) (c := co38) ?_).2.2; exact (by (with_reducible repeat (first | apply qA | apply qN | apply qD)); exact (Kd.R_mono (qF (p := ⟨gb208, 1, none⟩) (qF (p := ⟨gb208, 0, none⟩) (Kd.R_types HO203.out BK208.out (by decide)) (fun _ hk => hk.2) (.slice Ao38 t201.length co38)) (fun _ hk => hk.2) (.slice Ao43 t204.length co43)) (fun _ h_ => h_.1)))); (case side2 => exact (qR HO203.out).2.1); (case side3 => refine (qR (e := 3) (base := w.heap.size) (ok := fun k_ => ((((((some k_ ≠ (.slice Ao38 t201.length co38 : Value).ownBlock ∧ some k_ ≠ (.slice Ao20 t180.length co20 : Value).ownBlock) ∧ some k_ ≠ (.slice Ao21 t183.length co21 : Value).ownBlock) ∧ some k_ ≠ (.slice Ao24 t186.length co24 : Value).ownBlock) ∧ some k_ ≠ (.slice Ao27 t189.length co27 : Value).ownBlock) ∧ some k_ ≠ (.slice Ao31 t194.length co31 : Value).ownBlock) ∧ some k_ ≠ (.slice Ao35 t197.length co35 : Value).ownBlock)) (n := t204.length) (c := co43) ?_).2.2; exact (by (with_reducible repeat (first | apply qA | apply qN | apply qD)); exact (Kd.R_mono (qF (p := ⟨gb208, 1, none⟩) (qF (p := ⟨gb208, 0, none⟩) (Kd.R_types HO206.out BK208.out (by decide)) (fun _ hk => hk.2) (.slice Ao38 t201.length co38)) (fun _ hk => hk.2) (.slice Ao43 t204.length co43)) (fun _ h_ => h_.1)))); (case side4 => exact (qR HO206.out).2.1); (case side5 => refine (qR (e := 3) (base := w.heap.size) (ok := fun k_ => ((((((some k_ ≠ (.slice Ao27 t189.length co27 : Value).ownBlock ∧ some k_ ≠ (.slice Ao20 t180.length co20 : Value).ownBlock) ∧ some k_ ≠ (.slice Ao21 t183.length co21 : Value).ownBlock) ∧ some k_ ≠ (.slice Ao31 t194.length co31 : Value).ownBlock) ∧ some k_ ≠ (.slice Ao35 t197.length co35 : Value).ownBlock) ∧ some k_ ≠ (.slice Ao38 t201.length co38 : Value).ownBlock) ∧ some k_ ≠ (.slice Ao43 t204.length co43 : Value).ownBlock)) (n := t186.length) (c := co24) ?_).2.2; exact (by (with_reducible repeat (first | apply qA | apply qN | apply qD)); exact (Kd.R_mono (qF (p := ⟨gb208, 1, none⟩) (qF (p := ⟨gb208, 0, none⟩) (Kd.R_types HO188.out BK208.out (by decide)) (fun _ hk => hk.2) (.slice Ao38 t201.length co38)) (fun _ hk => hk.2) (.slice Ao43 t204.length co43)) (fun _ h_ => h_.1)))); (case side6 => exact (qR HO188.out).2.1); (case side7 => refine (qR (e := 3) (base := w.heap.size) (ok := fun k_ => ((((((some k_ ≠ (.slice Ao24 t186.length co24 : Value).ownBlock ∧ some k_ ≠ (.slice Ao20 t180.length co20 : Value).ownBlock) ∧ some k_ ≠ (.slice Ao21 t183.length co21 : Value).ownBlock) ∧ some k_ ≠ (.slice Ao31 t194.length co31 : Value).ownBlock) ∧ some k_ ≠ (.slice Ao35 t197.length co35 : Value).ownBlock) ∧ some k_ ≠ (.slice Ao38 t201.length co38 : Value).ownBlock) ∧ some k_ ≠ (.slice Ao43 t204.length co43 : Value).ownBlock)) (n := t189.length) (c := co27) ?_).2.2; exact (by (with_reducible repeat (first | apply qA | apply qN | apply qD)); exact (Kd.R_mono (qF (p := ⟨gb208, 1, none⟩) (qF (p := ⟨gb208, 0, none⟩) (Kd.R_types HO191.out BK208.out (by decide)) (fun _ hk => hk.2) (.slice Ao38 t201.length co38)) (fun _ hk => hk.2) (.slice Ao43 t204.length co43)) (fun _ h_ => h_.1)))); (case side8 => exact (qR HO191.out).2.1); rintro e w53 ⟨rfl, hb⟩; refine ⟨_, rfl, ?_⟩; have n0_ := qM (Kd.R_below (by (with_reducible repeat (first | apply qA | apply qN | apply qD)); exact (Kd.R_mono (qF (p := ⟨gb208, 1, none⟩) (qF (p := ⟨gb208, 0, none⟩) (Kd.R_types HO182.out BK208.out (by decide)) (fun _ hk => hk.2) (.slice Ao38 t201.length co38)) (fun _ hk => hk.2) (.slice Ao43 t204.length co43)) (fun _ h_ => h_.1))) hb); have n1_ := qM (Kd.R_below (by (with_reducible repeat (first | apply qA | apply qN | apply qD)); exact (Kd.R_mono (qF (p := ⟨gb208, 1, none⟩) (qF (p := ⟨gb208, 0, none⟩) (Kd.R_types HO185.out BK208.out (by decide)) (fun _ hk => hk.2) (.slice Ao38 t201.length co38)) (fun _ hk => hk.2) (.slice Ao43 t204.length co43)) (fun _ h_ => h_.1))) hb); have n2_ := qM (Kd.R_below (by (with_reducible repeat (first | apply qA | apply qN | apply qD)); exact (Kd.R_mono (qF (p := ⟨gb208, 1, none⟩) (qF (p := ⟨gb208, 0, none⟩) (Kd.R_types HO188.out BK208.out (by decide)) (fun _ hk => hk.2) (.slice Ao38 t201.length co38)) (fun _ hk => hk.2) (.slice Ao43 t204.length co43)) (fun _ h_ => h_.1))) hb); have n3_ := qM (Kd.R_below (by (with_reducible repeat (first | apply qA | apply qN | apply qD)); exact (Kd.R_mono (qF (p := ⟨gb208, 1, none⟩) (qF (p := ⟨gb208, 0, none⟩) (Kd.R_types HO191.out BK208.out (by decide)) (fun _ hk => hk.2) (.slice Ao38 t201.length co38)) (fun _ hk => hk.2) (.slice Ao43 t204.length co43)) (fun _ h_ => h_.1))) hb); have n4_ := qM (Kd.R_below (by (with_reducible repeat (first | apply qA | apply qN | apply qD)); exact (Kd.R_mono (qF (p := ⟨gb208, 1, none⟩) (qF (p := ⟨gb208, 0, none⟩) (Kd.R_types HO196.out BK208.out (by decide)) (fun _ hk => hk.2) (.slice Ao38 t201.length co38)) (fun _ hk => hk.2) (.slice Ao43 t204.length co43)) (fun _ h_ => h_.1))) hb); have n5_ := qM (Kd.R_below (by (with_reducible repeat (first | apply qA | apply qN | apply qD)); exact (Kd.R_mono (qF (p := ⟨gb208, 1, none⟩) (qF (p := ⟨gb208, 0, none⟩) (Kd.R_types HO199.out BK208.out (by decide)) (fun _ hk => hk.2) (.slice Ao38 t201.length co38)) (fun _ hk => hk.2) (.slice Ao43 t204.length co43)) (fun _ h_ => h_.1))) hb); have n6_ := qM (Kd.R_below (by (with_reducible repeat (first | apply qA | apply qN | apply qD)); exact (Kd.R_mono (qF (p := ⟨gb208, 1, none⟩) (qF (p := ⟨gb208, 0, none⟩) (Kd.R_types HO203.out BK208.out (by decide)) (fun _ hk => hk.2) (.slice Ao38 t201.length co38)) (fun _ hk => hk.2) (.slice Ao43 t204.length co43)) (fun _ h_ => h_.1))) hb); have n7_ := qM (Kd.R_below (by (with_reducible repeat (first | apply qA | apply qN | apply qD)); exact (Kd.R_mono (qF (p := ⟨gb208, 1, none⟩) (qF (p := ⟨gb208, 0, none⟩) (Kd.R_types HO206.out BK208.out (by decide)) (fun _ hk => hk.2) (.slice Ao38 t201.length co38)) (fun _ hk => hk.2) (.slice Ao43 t204.length co43)) (fun _ h_ => h_.1))) hb); have n8_ := qM (blk_below (g := gb178) (o := .cells #[.slice A0_0 l0_0.length c0_0, .slice A0_1 l0_1.length c0_1] 48 (0, 0)) (by (with_reducible repeat (first | refine zN ?_ _ | refine zD ?_ | refine zA ?_ _)); refine blk_far ?_ NB178_208.out _; (with_reducible repeat (first | refine zN ?_ _ | refine zD ?_ | refine zA ?_ _)); refine blk_far ?_ NB178_208.out _; (with_reducible repeat (first | refine zN ?_ _ | refine zD ?_ | refine zA ?_ _)); exact BK178.out) hb); have n9_ := qM (blk_below (g := gb193) (o := .cells #[.slice Ao24 t186.length co24, .slice Ao27 t189.length co27] 37 (0, 0)) (by (with_reducible repeat (first | refine zN ?_ _ | refine zD ?_ | refine zA ?_ _)); refine blk_far ?_ NB193_208.out _; (with_reducible repeat (first | refine zN ?_ _ | refine zD ?_ | refine zA ?_ _)); refine blk_far ?_ NB193_208.out _; (with_reducible repeat (first | refine zN ?_ _ | refine zD ?_ | refine zA ?_ _)); exact BK193.out) hb); have n10_ := qM (blk_below (g := gb200) (o := .cells #[.slice Ao31 t194.length co31, .slice Ao35 t197.length co35] 37 (0, 0)) (by (with_reducible repeat (first | refine zN ?_ _ | refine zD ?_ | refine zA ?_ _)); refine blk_far ?_ NB200_208.out _; (with_reducible repeat (first | refine zN ?_ _ | refine zD ?_ | refine zA ?_ _)); refine blk_far ?_ NB200_208.out _; (with_reducible repeat (first | refine zN ?_ _ | refine zD ?_ | refine zA ?_ _)); exact BK200.out) hb); have n11_ := qM (blk_below (g := gb208) (o := .cells #[.slice Ao38 t201.length co38, .slice Ao43 t204.length co43] 37 (0, 0)) (by (with_reducible repeat (first | refine zN ?_ _ | refine zD ?_ | refine zA ?_ _)); refine blk_put (cs := #[.slice Ao38 t201.length co38, .slice none 0 0]) ?_ 1 _ rfl; (with_reducible repeat (first | refine zN ?_ _ | refine zD ?_ | refine zA ?_ _)); refine blk_put (cs := #[.slice none 0 0, .slice none 0 0]) ?_ 0 _ rfl; (with_reducible repeat (first | refine zN ?_ _ | refine zD ?_ | refine zA ?_ _)); exact BK208.out) hb); have n12_ := qM (below_step (by repeat (first | (with_reducible first | exact HB.out | apply yA | apply yN | apply yD | refine yS ?_ GE178.out | refine yS ?_ GE193.out | refine yS ?_ GE200.out | refine yS ?_ GE208.out) | exact HB.out)) hb); clear HO182; clear HO185; clear HO188; clear HO191; clear HO196; clear HO199; clear HO203; clear HO206; clear BK178; clear BK193; clear BK200; clear BK208; clear HB; have HO182 := n0_; have HO185 := n1_; have HO188 := n2_; have HO191 := n3_; have HO196 := n4_; have HO199 := n5_; have HO203 := n6_; have HO206 := n7_; have BK178 := n8_; have BK193 := n9_; have BK200 := n10_; have BK208 := n11_; have HB := n12_; clear n0_ n1_ n2_ n3_ n4_ n5_ n6_ n7_ n8_ n9_ n10_ n11_ n12_; (try clear hb); (try clear hb2); (try clear hk); (try clear hi)))
    go_meet
    case rel => exact ⟨_, ((t207 != t192)), (by first | rfl | (simp; done) | (simp [*]; done)), H', ⟨by first | omega | exact Nat.le_refl _⟩, ⟨by (with_reducible repeat (first | apply qA | apply qN | apply qD)); exact Kd.R_mono HO188.out (fun _ hk => ⟨hk.1.1.1.1.1.1, ⟨hk.1.1.1.2, ⟨hk.1.1.2, ⟨hk.1.2, hk.2⟩⟩⟩⟩)⟩, ⟨by (with_reducible repeat (first | apply qA | apply qN | apply qD)); exact Kd.R_mono HO191.out (fun _ hk => ⟨hk.1.1.1.1.1.1, ⟨hk.1.1.1.2, ⟨hk.1.1.2, ⟨hk.1.2, hk.2⟩⟩⟩⟩)⟩, ⟨by (with_reducible repeat (first | apply qA | apply qN | apply qD)); exact Kd.R_mono HO196.out (fun _ hk => ⟨hk.1.1.1.2, ⟨hk.1.1.2, ⟨hk.1.1.1.1.1.1, ⟨hk.1.2, hk.2⟩⟩⟩⟩)⟩, ⟨by (with_reducible repeat (first | apply qA | apply qN | apply qD)); exact Kd.R_mono HO199.out (fun _ hk => ⟨hk.1.1.1.2, ⟨hk.1.1.2, ⟨hk.1.1.1.1.1.1, ⟨hk.1.2, hk.2⟩⟩⟩⟩)⟩, ⟨by (with_reducible repeat (first | apply qA | apply qN | apply qD)); exact Kd.R_mono HO203.out (fun _ hk => ⟨hk.1.1.1.2, ⟨hk.1.1.2, ⟨hk.1.2, ⟨hk.2, hk.1.1.1.1.1.1⟩⟩⟩⟩)⟩, ⟨by (with_reducible repeat (first | apply qA | apply qN | apply qD)); exact Kd.R_mono HO206.out (fun _ hk => ⟨hk.1.1.1.2, ⟨hk.1.1.2, ⟨hk.1.2, ⟨hk.2, hk.1.1.1.1.1.1⟩⟩⟩⟩)⟩, ⟨by (with_reducible repeat (first | refine zN ?_ _ | refine zD ?_ | refine zA ?_ _)); exact BK178.out⟩, ⟨by (with_reducible repeat (first | refine zN ?_ _ | refine zD ?_ | refine zA ?_ _)); exact BK193.out⟩, ⟨by (with_reducible repeat (first | refine zN ?_ _ | refine zD ?_ | refine zA ?_ _)); exact BK200.out⟩, ⟨by (with_reducible repeat (first | refine zN ?_ _ | refine zD ?_ | refine zA ?_ _)); exact BK208.out⟩, ⟨by repeat (first | (with_reducible first | exact HB.out | apply yA | apply yN | apply yD | refine yS ?_ GE178.out | refine yS ?_ GE193.out | refine yS ?_ GE200.out | refine yS ?_ GE208.out) | exact HB.out)⟩⟩
   ·replace c45 := Bool.eq_false_iff.mpr c45
    subst c45
    have H1 : (laws_FnExactHrdHear.j0 k a1 a2 a3 t192 t207 true l0_0 l0_1 t186 t189 t194 t197 t201 t204) = some r := by rw [if_neg (show ¬ (false = true) by decide)] at H; exact H
    clear H
    have H := H1
    clear H1
    have H' := qM H
    clear H
    have hnb54 := NB208_178.out
    have hnc54 := NB178_208.out
    have hnb55 := NB208_193.out
    have hnc55 := NB193_208.out
    have hnb56 := NB208_200.out
    have hnc56 := NB200_208.out
    have hcz57_0 : w37.cell? ⟨gb208, 0, none⟩ = some (.slice none 0 0) := (zC BK208.out 0).trans rfl
    have hcz57_1 : w37.cell? ⟨gb208, 1, none⟩ = some (.slice none 0 0) := (zC BK208.out 1).trans rfl
    have hfz57_0 := zF BK208.out 0
    have hfz57_1 := zF BK208.out 1
    have hnb58 := NB193_178.out
    have hnc58 := NB178_193.out
    have hnb59 := NB193_200.out
    have hnc59 := NB200_193.out
    have hcz60_0 : w37.cell? ⟨gb193, 0, none⟩ = some (.slice Ao24 t186.length co24) := (zC BK193.out 0).trans rfl
    have hcz60_1 : w37.cell? ⟨gb193, 1, none⟩ = some (.slice Ao27 t189.length co27) := (zC BK193.out 1).trans rfl
    have hfz60_0 := zF BK193.out 0
    have hfz60_1 := zF BK193.out 1
    go_wp2_with (first | ((with_reducible refine gate_callee (f := 22) rfl ?_); refine goesL_ (some 46) rfl rfl Try.func22 (by kernel_rfl) rfl #[.agg #[.slice Ao38 t201.length co38, .slice Ao43 t204.length co43], .agg #[.slice Ao24 t186.length co24, .slice Ao27 t189.length co27]] rfl (by (try simp only [List.map_toArray, List.map_cons, List.map_nil]); first | done | rfl | (simp only [List.length_drop, List.length_take]; rfl)) ?_; (with_reducible refine (laws_eqHrdBook.calls k _ _ t201 _ _ t204 _ _ t186 _ _ t189 false _ ?side1 ?side2 ?side3 ?side4 ?side5 ?side6 ?side7 ?side8 A44.out).mono ?_); (case side1 => refine (qR (e := 3) (base := w.heap.size) (ok := fun k_ => ((((((some k_ ≠ (.slice Ao43 t204.length co43 : Value).ownBlock ∧ some k_ ≠ (.slice Ao20 t180.length co20 : Value).ownBlock) ∧ some k_ ≠ (.slice Ao21 t183.length co21 : Value).ownBlock) ∧ some k_ ≠ (.slice Ao24 t186.length co24 : Value).ownBlock) ∧ some k_ ≠ (.slice Ao27 t189.length co27 : Value).ownBlock) ∧ some k_ ≠ (.slice Ao31 t194.length co31 : Value).ownBlock) ∧ some k_ ≠ (.slice Ao35 t197.length co35 : Value).ownBlock)) (n := t201.length) (c := co38) ?_).2.2; exact (by (with_reducible repeat (first | apply qA | apply qN | apply qD)); exact (Kd.R_mono (qF (p := ⟨gb208, 1, none⟩) (qF (p := ⟨gb208, 0, none⟩) (Kd.R_types HO203.out BK208.out (by decide)) (fun _ hk => hk.2) (.slice Ao38 t201.length co38)) (fun _ hk => hk.2) (.slice Ao43 t204.length co43)) (fun _ h_ => h_.1)))); (case side2 => exact (qR HO203.out).2.1); (case side3 => refine (qR (e := 3) (base := w.heap.size) (ok := fun k_ => ((((((some k_ ≠ (.slice Ao38 t201.length co38 : Value).ownBlock ∧ some k_ ≠ (.slice Ao20 t180.length co20 : Value).ownBlock) ∧ some k_ ≠ (.slice Ao21 t183.length co21 : Value).ownBlock) ∧ some k_ ≠ (.slice Ao24 t186.length co24 : Value).ownBlock) ∧ some k_ ≠ (.slice Ao27 t189.length co27 : Value).ownBlock) ∧ some k_ ≠ (.slice Ao31 t194.length co31 : Value).ownBlock) ∧ some k_ ≠ (.slice Ao35 t197.length co35 : Value).ownBlock)) (n := t204.length) (c := co43) ?_).2.2; exact (by (with_reducible repeat (first | apply qA | apply qN | apply qD)); exact (Kd.R_mono (qF (p := ⟨gb208, 1, none⟩) (qF (p := ⟨gb208, 0, none⟩) (Kd.R_types HO206.out BK208.out (by decide)) (fun _ hk => hk.2) (.slice Ao38 t201.length co38)) (fun _ hk => hk.2) (.slice Ao43 t204.length co43)) (fun _ h_ => h_.1)))); (case side4 => exact (qR HO206.out).2.1); (case side5 => refine (qR (e := 3) (base := w.heap.size) (ok := fun k_ => ((((((some k_ ≠ (.slice Ao27 t189.length co27 : Value).ownBlock ∧ some k_ ≠ (.slice Ao20 t180.length co20 : Value).ownBlock) ∧ some k_ ≠ (.slice Ao21 t183.length co21 : Value).ownBlock) ∧ some k_ ≠ (.slice Ao31 t194.length co31 : Value).ownBlock) ∧ some k_ ≠ (.slice Ao35 t197.length co35 : Value).ownBlock) ∧ some k_ ≠ (.slice Ao38 t201.length co38 : Value).ownBlock) ∧ some k_ ≠ (.slice Ao43 t204.length co43 : Value).ownBlock)) (n := t186.length) (c := co24) ?_).2.2; exact (by (with_reducible repeat (first | apply qA | apply qN | apply qD)); exact (Kd.R_mono (qF (p := ⟨gb208, 1, none⟩) (qF (p := ⟨gb208, 0, none⟩) (Kd.R_types HO188.out BK208.out (by decide)) (fun _ hk => hk.2) (.slice Ao38 t201.length co38)) (fun _ hk => hk.2) (.slice Ao43 t204.length co43)) (fun _ h_ => h_.1)))); (case side6 => exact (qR HO188.out).2.1); (case side7 => refine (qR (e := 3) (base := w.heap.size) (ok := fun k_ => ((((((some k_ ≠ (.slice Ao24 t186.length co24 : Value).ownBlock ∧ some k_ ≠ (.slice Ao20 t180.length co20 : Value).ownBlock) ∧ some k_ ≠ (.slice Ao21 t183.length co21 : Value).ownBlock) ∧ some k_ ≠ (.slice Ao31 t194.length co31 : Value).ownBlock) ∧ some k_ ≠ (.slice Ao35 t197.length co35 : Value).ownBlock) ∧ some k_ ≠ (.slice Ao38 t201.length co38 : Value).ownBlock) ∧ some k_ ≠ (.slice Ao43 t204.length co43 : Value).ownBlock)) (n := t189.length) (c := co27) ?_).2.2; exact (by (with_reducible repeat (first | apply qA | apply qN | apply qD)); exact (Kd.R_mono (qF (p := ⟨gb208, 1, none⟩) (qF (p := ⟨gb208, 0, none⟩) (Kd.R_types HO191.out BK208.out (by decide)) (fun _ hk => hk.2) (.slice Ao38 t201.length co38)) (fun _ hk => hk.2) (.slice Ao43 t204.length co43)) (fun _ h_ => h_.1)))); (case side8 => exact (qR HO191.out).2.1); rintro e w61 ⟨rfl, hb⟩; refine ⟨_, rfl, ?_⟩; have n0_ := qM (Kd.R_below (by (with_reducible repeat (first | apply qA | apply qN | apply qD)); exact (Kd.R_mono (qF (p := ⟨gb208, 1, none⟩) (qF (p := ⟨gb208, 0, none⟩) (Kd.R_types HO182.out BK208.out (by decide)) (fun _ hk => hk.2) (.slice Ao38 t201.length co38)) (fun _ hk => hk.2) (.slice Ao43 t204.length co43)) (fun _ h_ => h_.1))) hb); have n1_ := qM (Kd.R_below (by (with_reducible repeat (first | apply qA | apply qN | apply qD)); exact (Kd.R_mono (qF (p := ⟨gb208, 1, none⟩) (qF (p := ⟨gb208, 0, none⟩) (Kd.R_types HO185.out BK208.out (by decide)) (fun _ hk => hk.2) (.slice Ao38 t201.length co38)) (fun _ hk => hk.2) (.slice Ao43 t204.length co43)) (fun _ h_ => h_.1))) hb); have n2_ := qM (Kd.R_below (by (with_reducible repeat (first | apply qA | apply qN | apply qD)); exact (Kd.R_mono (qF (p := ⟨gb208, 1, none⟩) (qF (p := ⟨gb208, 0, none⟩) (Kd.R_types HO188.out BK208.out (by decide)) (fun _ hk => hk.2) (.slice Ao38 t201.length co38)) (fun _ hk => hk.2) (.slice Ao43 t204.length co43)) (fun _ h_ => h_.1))) hb); have n3_ := qM (Kd.R_below (by (with_reducible repeat (first | apply qA | apply qN | apply qD)); exact (Kd.R_mono (qF (p := ⟨gb208, 1, none⟩) (qF (p := ⟨gb208, 0, none⟩) (Kd.R_types HO191.out BK208.out (by decide)) (fun _ hk => hk.2) (.slice Ao38 t201.length co38)) (fun _ hk => hk.2) (.slice Ao43 t204.length co43)) (fun _ h_ => h_.1))) hb); have n4_ := qM (Kd.R_below (by (with_reducible repeat (first | apply qA | apply qN | apply qD)); exact (Kd.R_mono (qF (p := ⟨gb208, 1, none⟩) (qF (p := ⟨gb208, 0, none⟩) (Kd.R_types HO196.out BK208.out (by decide)) (fun _ hk => hk.2) (.slice Ao38 t201.length co38)) (fun _ hk => hk.2) (.slice Ao43 t204.length co43)) (fun _ h_ => h_.1))) hb); have n5_ := qM (Kd.R_below (by (with_reducible repeat (first | apply qA | apply qN | apply qD)); exact (Kd.R_mono (qF (p := ⟨gb208, 1, none⟩) (qF (p := ⟨gb208, 0, none⟩) (Kd.R_types HO199.out BK208.out (by decide)) (fun _ hk => hk.2) (.slice Ao38 t201.length co38)) (fun _ hk => hk.2) (.slice Ao43 t204.length co43)) (fun _ h_ => h_.1))) hb); have n6_ := qM (Kd.R_below (by (with_reducible repeat (first | apply qA | apply qN | apply qD)); exact (Kd.R_mono (qF (p := ⟨gb208, 1, none⟩) (qF (p := ⟨gb208, 0, none⟩) (Kd.R_types HO203.out BK208.out (by decide)) (fun _ hk => hk.2) (.slice Ao38 t201.length co38)) (fun _ hk => hk.2) (.slice Ao43 t204.length co43)) (fun _ h_ => h_.1))) hb); have n7_ := qM (Kd.R_below (by (with_reducible repeat (first | apply qA | apply qN | apply qD)); exact (Kd.R_mono (qF (p := ⟨gb208, 1, none⟩) (qF (p := ⟨gb208, 0, none⟩) (Kd.R_types HO206.out BK208.out (by decide)) (fun _ hk => hk.2) (.slice Ao38 t201.length co38)) (fun _ hk => hk.2) (.slice Ao43 t204.length co43)) (fun _ h_ => h_.1))) hb); have n8_ := qM (blk_below (g := gb178) (o := .cells #[.slice A0_0 l0_0.length c0_0, .slice A0_1 l0_1.length c0_1] 48 (0, 0)) (by (with_reducible repeat (first | refine zN ?_ _ | refine zD ?_ | refine zA ?_ _)); refine blk_far ?_ NB178_208.out _; (with_reducible repeat (first | refine zN ?_ _ | refine zD ?_ | refine zA ?_ _)); refine blk_far ?_ NB178_208.out _; (with_reducible repeat (first | refine zN ?_ _ | refine zD ?_ | refine zA ?_ _)); exact BK178.out) hb); have n9_ := qM (blk_below (g := gb193) (o := .cells #[.slice Ao24 t186.length co24, .slice Ao27 t189.length co27] 37 (0, 0)) (by (with_reducible repeat (first | refine zN ?_ _ | refine zD ?_ | refine zA ?_ _)); refine blk_far ?_ NB193_208.out _; (with_reducible repeat (first | refine zN ?_ _ | refine zD ?_ | refine zA ?_ _)); refine blk_far ?_ NB193_208.out _; (with_reducible repeat (first | refine zN ?_ _ | refine zD ?_ | refine zA ?_ _)); exact BK193.out) hb); have n10_ := qM (blk_below (g := gb200) (o := .cells #[.slice Ao31 t194.length co31, .slice Ao35 t197.length co35] 37 (0, 0)) (by (with_reducible repeat (first | refine zN ?_ _ | refine zD ?_ | refine zA ?_ _)); refine blk_far ?_ NB200_208.out _; (with_reducible repeat (first | refine zN ?_ _ | refine zD ?_ | refine zA ?_ _)); refine blk_far ?_ NB200_208.out _; (with_reducible repeat (first | refine zN ?_ _ | refine zD ?_ | refine zA ?_ _)); exact BK200.out) hb); have n11_ := qM (blk_below (g := gb208) (o := .cells #[.slice Ao38 t201.length co38, .slice Ao43 t204.length co43] 37 (0, 0)) (by (with_reducible repeat (first | refine zN ?_ _ | refine zD ?_ | refine zA ?_ _)); refine blk_put (cs := #[.slice Ao38 t201.length co38, .slice none 0 0]) ?_ 1 _ rfl; (with_reducible repeat (first | refine zN ?_ _ | refine zD ?_ | refine zA ?_ _)); refine blk_put (cs := #[.slice none 0 0, .slice none 0 0]) ?_ 0 _ rfl; (with_reducible repeat (first | refine zN ?_ _ | refine zD ?_ | refine zA ?_ _)); exact BK208.out) hb); have n12_ := qM (below_step (by repeat (first | (with_reducible first | exact HB.out | apply yA | apply yN | apply yD | refine yS ?_ GE178.out | refine yS ?_ GE193.out | refine yS ?_ GE200.out | refine yS ?_ GE208.out) | exact HB.out)) hb); clear HO182; clear HO185; clear HO188; clear HO191; clear HO196; clear HO199; clear HO203; clear HO206; clear BK178; clear BK193; clear BK200; clear BK208; clear HB; have HO182 := n0_; have HO185 := n1_; have HO188 := n2_; have HO191 := n3_; have HO196 := n4_; have HO199 := n5_; have HO203 := n6_; have HO206 := n7_; have BK178 := n8_; have BK193 := n9_; have BK200 := n10_; have BK208 := n11_; have HB := n12_; clear n0_ n1_ n2_ n3_ n4_ n5_ n6_ n7_ n8_ n9_ n10_ n11_ n12_; (try clear hb); (try clear hb2); (try clear hk); (try clear hi)))
    go_meet
    case rel => exact ⟨_, (true), (by first | rfl | (simp; done) | (simp [*]; done)), H', ⟨by first | omega | exact Nat.le_refl _⟩, ⟨by (with_reducible repeat (first | apply qA | apply qN | apply qD)); exact Kd.R_mono HO188.out (fun _ hk => ⟨hk.1.1.1.1.1.1, ⟨hk.1.1.1.2, ⟨hk.1.1.2, ⟨hk.1.2, hk.2⟩⟩⟩⟩)⟩, ⟨by (with_reducible repeat (first | apply qA | apply qN | apply qD)); exact Kd.R_mono HO191.out (fun _ hk => ⟨hk.1.1.1.1.1.1, ⟨hk.1.1.1.2, ⟨hk.1.1.2, ⟨hk.1.2, hk.2⟩⟩⟩⟩)⟩, ⟨by (with_reducible repeat (first | apply qA | apply qN | apply qD)); exact Kd.R_mono HO196.out (fun _ hk => ⟨hk.1.1.1.2, ⟨hk.1.1.2, ⟨hk.1.1.1.1.1.1, ⟨hk.1.2, hk.2⟩⟩⟩⟩)⟩, ⟨by (with_reducible repeat (first | apply qA | apply qN | apply qD)); exact Kd.R_mono HO199.out (fun _ hk => ⟨hk.1.1.1.2, ⟨hk.1.1.2, ⟨hk.1.1.1.1.1.1, ⟨hk.1.2, hk.2⟩⟩⟩⟩)⟩, ⟨by (with_reducible repeat (first | apply qA | apply qN | apply qD)); exact Kd.R_mono HO203.out (fun _ hk => ⟨hk.1.1.1.2, ⟨hk.1.1.2, ⟨hk.1.2, ⟨hk.2, hk.1.1.1.1.1.1⟩⟩⟩⟩)⟩, ⟨by (with_reducible repeat (first | apply qA | apply qN | apply qD)); exact Kd.R_mono HO206.out (fun _ hk => ⟨hk.1.1.1.2, ⟨hk.1.1.2, ⟨hk.1.2, ⟨hk.2, hk.1.1.1.1.1.1⟩⟩⟩⟩)⟩, ⟨by (with_reducible repeat (first | refine zN ?_ _ | refine zD ?_ | refine zA ?_ _)); exact BK178.out⟩, ⟨by (with_reducible repeat (first | refine zN ?_ _ | refine zD ?_ | refine zA ?_ _)); exact BK193.out⟩, ⟨by (with_reducible repeat (first | refine zN ?_ _ | refine zD ?_ | refine zA ?_ _)); exact BK200.out⟩, ⟨by (with_reducible repeat (first | refine zN ?_ _ | refine zD ?_ | refine zA ?_ _)); exact BK208.out⟩, ⟨by repeat (first | (with_reducible first | exact HB.out | apply yA | apply yN | apply yD | refine yS ?_ GE178.out | refine yS ?_ GE193.out | refine yS ?_ GE200.out | refine yS ?_ GE208.out) | exact HB.out)⟩⟩
  case rest =>
   clear HC14
   try clear c2
   try clear p2
   try clear c3
   try clear c4
   try clear c5
   try clear c6
   try clear c6b0
   try clear c8
   try clear c22
   try clear c25
   try clear c26
   try clear c27
   try clear c30
   try clear c31
   try clear c32
   try clear c33
   try clear c39
   try clear c40
   try clear c41
   try clear c45
   try clear c46
   try clear c47
   try clear c48
   try clear c50
   try clear c51
   try clear c54
   try clear c55
   try clear c56
   try clear c58
   try clear c59
   try clear hcz16_0
   try clear hcz16_1
   try clear hcz18_0
   try clear hcz18_1
   try clear hcz26_0
   try clear hcz26_1
   try clear hcz28_0
   try clear hcz28_1
   try clear hcz34_0
   try clear hcz34_1
   try clear hcz42_0
   try clear hcz42_1
   try clear hcz49_0
   try clear hcz49_1
   try clear hcz52_0
   try clear hcz52_1
   try clear hcz57_0
   try clear hcz57_1
   try clear hcz60_0
   try clear hcz60_1
   try clear hcz8_0
   try clear hcz8_1
   try clear hfz16_0
   try clear hfz16_1
   try clear hfz18_0
   try clear hfz18_1
   try clear hfz26_0
   try clear hfz26_1
   try clear hfz28_0
   try clear hfz28_1
   try clear hfz34_0
   try clear hfz34_1
   try clear hfz42_0
   try clear hfz42_1
   try clear hfz49_0
   try clear hfz49_1
   try clear hfz52_0
   try clear hfz52_1
   try clear hfz57_0
   try clear hfz57_1
   try clear hfz60_0
   try clear hfz60_1
   try clear hfz8_0
   try clear hfz8_1
   obtain ⟨kq, x52_13, rfl, HA, HJ13, HO_194000, HO_194001, HO_201000, HO_201001, HO_209000, HO_209001, BK178, BK193, BK200, BK208, HB⟩ := hcut
   cases kq with
   | zero => exact absurd HA.out (by simp [laws_FnExactHrdHear.j0])
   | succ kj13 =>
    have H := HA.out
    clear HA
    simp only [laws_FnExactHrdHear.j0] at H
    by_cases c62 : x52_13 = true
    ·subst c62
     have H1 : (some false) = some r := by rw [if_pos rfl] at H; exact H
     clear H
     have H := H1
     clear H1
     obtain rfl := Option.some.inj H
     go_wp2
     go_ret
     exact ⟨by first | rfl | (simp [errW_none, errW_some] <;> rfl) | (simp [*, errW_none, errW_some] <;> rfl), by repeat (first | (with_reducible first | exact HB.out | apply yA | apply yN | apply yD | refine yS ?_ GE178.out | refine yS ?_ GE193.out | refine yS ?_ GE200.out | refine yS ?_ GE208.out) | exact HB.out)⟩
    ·replace c62 := Bool.eq_false_iff.mpr c62
     subst c62
     have H1 : ((laws_toHrdBook.f kj13 l0_0 l0_1).bind fun bt210 => ((laws_eqHrdBook.f kj13 t194 t197 bt210.1 bt210.2).bind fun t216 => (if t216 = true then ((laws_markHrdBook.f kj13 t194 t197 1).bind fun bt217 => (if bt217.1 < 0 then (laws_FnExactHrdHear.j1 kj13 a1 a2 a3 t192 true l0_0 l0_1 t186 t189 t201 t204) else ((laws_eqHrdBook.f kj13 t201 t204 t186 t189).bind fun t220 => (if t220 = true then (laws_FnExactHrdHear.j1 kj13 a1 a2 a3 t192 (t207 != t192) l0_0 l0_1 t186 t189 t201 t204) else (laws_FnExactHrdHear.j1 kj13 a1 a2 a3 t192 true l0_0 l0_1 t186 t189 t201 t204))))) else (some false)))) = some r := by rw [if_neg (show ¬ (false = true) by decide)] at H; exact H
     clear H
     have H := H1
     clear H1
     replace H := Option.bind_eq_some_iff.mp H
     obtain ⟨⟨t210, t213⟩, A630, H⟩ := H
     replace H : ((laws_eqHrdBook.f kj13 t194 t197 t210 t213).bind fun t216 => (if t216 = true then ((laws_markHrdBook.f kj13 t194 t197 1).bind fun bt217 => (if bt217.1 < 0 then (laws_FnExactHrdHear.j1 kj13 a1 a2 a3 t192 true l0_0 l0_1 t186 t189 t201 t204) else ((laws_eqHrdBook.f kj13 t201 t204 t186 t189).bind fun t220 => (if t220 = true then (laws_FnExactHrdHear.j1 kj13 a1 a2 a3 t192 (t207 != t192) l0_0 l0_1 t186 t189 t201 t204) else (laws_FnExactHrdHear.j1 kj13 a1 a2 a3 t192 true l0_0 l0_1 t186 t189 t201 t204))))) else (some false))) = some r := H
     have A63 := qM A630
     clear A630
     replace H := Option.bind_eq_some_iff.mp H
     obtain ⟨t216, A640, H⟩ := H
     replace H : (if t216 = true then ((laws_markHrdBook.f kj13 t194 t197 1).bind fun bt217 => (if bt217.1 < 0 then (laws_FnExactHrdHear.j1 kj13 a1 a2 a3 t192 true l0_0 l0_1 t186 t189 t201 t204) else ((laws_eqHrdBook.f kj13 t201 t204 t186 t189).bind fun t220 => (if t220 = true then (laws_FnExactHrdHear.j1 kj13 a1 a2 a3 t192 (t207 != t192) l0_0 l0_1 t186 t189 t201 t204) else (laws_FnExactHrdHear.j1 kj13 a1 a2 a3 t192 true l0_0 l0_1 t186 t189 t201 t204))))) else (some false)) = some r := H
     have A64 := qM A640
     clear A640
     by_cases c65 : t216 = true
     ·subst c65
      have H1 : ((laws_markHrdBook.f kj13 t194 t197 1).bind fun bt217 => (if bt217.1 < 0 then (laws_FnExactHrdHear.j1 kj13 a1 a2 a3 t192 true l0_0 l0_1 t186 t189 t201 t204) else ((laws_eqHrdBook.f kj13 t201 t204 t186 t189).bind fun t220 => (if t220 = true then (laws_FnExactHrdHear.j1 kj13 a1 a2 a3 t192 (t207 != t192) l0_0 l0_1 t186 t189 t201 t204) else (laws_FnExactHrdHear.j1 kj13 a1 a2 a3 t192 true l0_0 l0_1 t186 t189 t201 t204))))) = some r := by rw [if_pos rfl] at H; exact H
      clear H
      have H := H1
      clear H1
      replace H := Option.bind_eq_some_iff.mp H
      obtain ⟨⟨t217, t218, t219⟩, A660, H⟩ := H
      replace H : (if t217 < 0 then (laws_FnExactHrdHear.j1 kj13 a1 a2 a3 t192 true l0_0 l0_1 t186 t189 t201 t204) else ((laws_eqHrdBook.f kj13 t201 t204 t186 t189).bind fun t220 => (if t220 = true then (laws_FnExactHrdHear.j1 kj13 a1 a2 a3 t192 (t207 != t192) l0_0 l0_1 t186 t189 t201 t204) else (laws_FnExactHrdHear.j1 kj13 a1 a2 a3 t192 true l0_0 l0_1 t186 t189 t201 t204)))) = some r := H
      have A66 := qM A660
      clear A660
      have HC67 := qM H
      clear H
      try go_wp2
      have n0_ := qM (qD HO_194000.out)
      have n1_ := qM (qD HO_194001.out)
      have n2_ := qM (qD HO_201000.out)
      have n3_ := qM (qD HO_201001.out)
      have n4_ := qM (qD HO_209000.out)
      have n5_ := qM (qD HO_209001.out)
      have n6_ := qM (zD BK178.out)
      have n7_ := qM (zD BK193.out)
      have n8_ := qM (zD BK200.out)
      have n9_ := qM (zD BK208.out)
      have n10_ := qM (yD HB.out)
      clear HO_194000
      clear HO_194001
      clear HO_201000
      clear HO_201001
      clear HO_209000
      clear HO_209001
      clear BK178
      clear BK193
      clear BK200
      clear BK208
      clear HB
      have HO_194000 := n0_
      have HO_194001 := n1_
      have HO_201000 := n2_
      have HO_201001 := n3_
      have HO_209000 := n4_
      have HO_209001 := n5_
      have BK178 := n6_
      have BK193 := n7_
      have BK200 := n8_
      have BK208 := n9_
      have HB := n10_
      clear n0_ n1_ n2_ n3_ n4_ n5_ n6_ n7_ n8_ n9_ n10_
      refine start_ (n := 5) (S := fun w' => w'.cell? ⟨gb200, 0, none⟩ = some (.slice Ao31 t194.length co31) ∧ w'.cell? ⟨gb200, 1, none⟩ = some (.slice Ao35 t197.length co35) ∧ w'.cell? ⟨gb178, 0, none⟩ = some (.slice A0_0 l0_0.length c0_0) ∧ w'.cell? ⟨gb178, 1, none⟩ = some (.slice A0_1 l0_1.length c0_1)) (ds := []) #[false, false, false, false, false] (by kernel_rfl) rfl rfl ⟨(zC BK200.out 0).trans rfl, (zC BK200.out 1).trans rfl, (zC BK178.out 0).trans rfl, (zC BK178.out 1).trans rfl⟩ (fun hHeld => ?_)
      generalize wc.drew = w68 at HO_194000 HO_194001 HO_201000 HO_201001 HO_209000 HO_209001 BK178 BK193 BK200 BK208 HB hHeld ⊢
      refine take_ (i := 0) (N := some 53) (v := ?_) (a' := ?_) #[true, false, false, false, false] rfl rfl (by kernel_rfl) (fun _ _ _ h => h) (Or.inl ⟨by rfl, ?_⟩) hHeld ?_ ?_
      rotate_left
      ·rintro w' ⟨s0, s1, s2, s3⟩
       go_simp
       with_reducible rfl
      rotate_left
      ·simp only [Act.put, List.setIfInBounds_toArray, List.set_cons_zero, List.set_cons_succ, i64_w, i32_w]
       rfl
      refine take_ (i := 1) (N := some 54) (v := ?_) (a' := ?_) #[true, true, false, false, false] rfl rfl (by kernel_rfl) (fun _ _ _ h => h) (Or.inl ⟨by rfl, ?_⟩) hHeld ?_ ?_
      rotate_left
      ·rintro w' ⟨s0, s1, s2, s3⟩
       go_simp
       with_reducible rfl
      rotate_left
      ·simp only [Act.put, List.setIfInBounds_toArray, List.set_cons_zero, List.set_cons_succ, i64_w, i32_w]
       rfl
      refine one_ (i := 2) (N := some 55) #[true, true, true, false, false] rfl rfl (by kernel_rfl) (by decide) (fun K hK => ?_)
      refine goes_ Try.func31 (by kernel_rfl) rfl #[.agg #[.slice A0_0 l0_0.length c0_0, .slice A0_1 l0_1.length c0_1]] (by rfl) rfl rfl (by (try simp only [List.map_toArray, List.map_cons, List.map_nil]); first | done | rfl | (simp only [List.length_drop, List.length_take]; rfl)) ?_
      with_reducible refine (laws_toHrdBook.calls kj13 _ _ l0_0 _ _ l0_1 t210 t213 _ ?side1 ?side2 ?side3 ?side4 A63.out).mono ?_
      (case side1 => repeat (first | exact (Kd.C_below HR0_0.out HB.out) | (with_reducible refine Kd.C_alloc ?_ _) | (with_reducible refine Kd.C_drewN ?_ _) | (with_reducible refine Kd.C_drew ?_)))
      (case side2 => exact HC0_0.out)
      (case side3 => repeat (first | exact (Kd.C_below HR0_1.out HB.out) | (with_reducible refine Kd.C_alloc ?_ _) | (with_reducible refine Kd.C_drewN ?_ _) | (with_reducible refine Kd.C_drew ?_)))
      (case side4 => exact HC0_1.out)
      rintro e w69 ⟨v211, v214, rfl, ho0, ho1, hb⟩
      refine ⟨_, rfl, ?_⟩
      have n0_ := qM (Kd.R_mono (Kd.R_told (Kd.R_told (Kd.R_old (by (with_reducible repeat (first | apply qA | apply qN | apply qD)); exact HO_194000.out) hb) (Kd.R_base ho0)) (Kd.R_base ho1)) (fun _ h_ => h_.1))
      have n1_ := qM (Kd.R_mono (Kd.R_told (Kd.R_told (Kd.R_old (by (with_reducible repeat (first | apply qA | apply qN | apply qD)); exact HO_194001.out) hb) (Kd.R_base ho0)) (Kd.R_base ho1)) (fun _ h_ => h_.1))
      have n2_ := qM (Kd.R_mono (Kd.R_told (Kd.R_told (Kd.R_old (by (with_reducible repeat (first | apply qA | apply qN | apply qD)); exact HO_201000.out) hb) (Kd.R_base ho0)) (Kd.R_base ho1)) (fun _ h_ => h_.1))
      have n3_ := qM (Kd.R_mono (Kd.R_told (Kd.R_told (Kd.R_old (by (with_reducible repeat (first | apply qA | apply qN | apply qD)); exact HO_201001.out) hb) (Kd.R_base ho0)) (Kd.R_base ho1)) (fun _ h_ => h_.1))
      have n4_ := qM (Kd.R_mono (Kd.R_told (Kd.R_told (Kd.R_old (by (with_reducible repeat (first | apply qA | apply qN | apply qD)); exact HO_209000.out) hb) (Kd.R_base ho0)) (Kd.R_base ho1)) (fun _ h_ => h_.1))
      have n5_ := qM (Kd.R_mono (Kd.R_told (Kd.R_told (Kd.R_old (by (with_reducible repeat (first | apply qA | apply qN | apply qD)); exact HO_209001.out) hb) (Kd.R_base ho0)) (Kd.R_base ho1)) (fun _ h_ => h_.1))
      have n6_ := qM (Kd.R_lower (Kd.R_new' (Kd.R_new' (Kd.R_new' (Kd.R_new' (Kd.R_new' (Kd.R_new' ho0 (Kd.R_lt (by (with_reducible repeat (first | apply qA | apply qN | apply qD)); exact HO_194000.out))) (Kd.R_lt (by (with_reducible repeat (first | apply qA | apply qN | apply qD)); exact HO_194001.out))) (Kd.R_lt (by (with_reducible repeat (first | apply qA | apply qN | apply qD)); exact HO_201000.out))) (Kd.R_lt (by (with_reducible repeat (first | apply qA | apply qN | apply qD)); exact HO_201001.out))) (Kd.R_lt (by (with_reducible repeat (first | apply qA | apply qN | apply qD)); exact HO_209000.out))) (Kd.R_lt (by (with_reducible repeat (first | apply qA | apply qN | apply qD)); exact HO_209001.out))) (below_size (by repeat (first | (with_reducible first | exact HB.out | apply yA | apply yN | apply yD | refine yS ?_ GE178.out | refine yS ?_ GE193.out | refine yS ?_ GE200.out | refine yS ?_ GE208.out) | exact HB.out))))
      have n7_ := qM (Kd.R_lower (Kd.R_new' (Kd.R_new' (Kd.R_new' (Kd.R_new' (Kd.R_new' (Kd.R_new' ho1 (Kd.R_lt (by (with_reducible repeat (first | apply qA | apply qN | apply qD)); exact HO_194000.out))) (Kd.R_lt (by (with_reducible repeat (first | apply qA | apply qN | apply qD)); exact HO_194001.out))) (Kd.R_lt (by (with_reducible repeat (first | apply qA | apply qN | apply qD)); exact HO_201000.out))) (Kd.R_lt (by (with_reducible repeat (first | apply qA | apply qN | apply qD)); exact HO_201001.out))) (Kd.R_lt (by (with_reducible repeat (first | apply qA | apply qN | apply qD)); exact HO_209000.out))) (Kd.R_lt (by (with_reducible repeat (first | apply qA | apply qN | apply qD)); exact HO_209001.out))) (below_size (by repeat (first | (with_reducible first | exact HB.out | apply yA | apply yN | apply yD | refine yS ?_ GE178.out | refine yS ?_ GE193.out | refine yS ?_ GE200.out | refine yS ?_ GE208.out) | exact HB.out))))
      have n8_ := qM (blk_below (g := gb178) (o := .cells #[.slice A0_0 l0_0.length c0_0, .slice A0_1 l0_1.length c0_1] 48 (0, 0)) (by (with_reducible repeat (first | refine zN ?_ _ | refine zD ?_ | refine zA ?_ _)); exact BK178.out) hb)
      have n9_ := qM (blk_below (g := gb193) (o := .cells #[.slice Ao24 t186.length co24, .slice Ao27 t189.length co27] 37 (0, 0)) (by (with_reducible repeat (first | refine zN ?_ _ | refine zD ?_ | refine zA ?_ _)); exact BK193.out) hb)
      have n10_ := qM (blk_below (g := gb200) (o := .cells #[.slice Ao31 t194.length co31, .slice Ao35 t197.length co35] 37 (0, 0)) (by (with_reducible repeat (first | refine zN ?_ _ | refine zD ?_ | refine zA ?_ _)); exact BK200.out) hb)
      have n11_ := qM (blk_below (g := gb208) (o := .cells #[.slice Ao38 t201.length co38, .slice Ao43 t204.length co43] 37 (0, 0)) (by (with_reducible repeat (first | refine zN ?_ _ | refine zD ?_ | refine zA ?_ _)); exact BK208.out) hb)
      have n12_ := qM (below_step (by repeat (first | (with_reducible first | exact HB.out | apply yA | apply yN | apply yD | refine yS ?_ GE178.out | refine yS ?_ GE193.out | refine yS ?_ GE200.out | refine yS ?_ GE208.out) | exact HB.out)) hb)
      clear HO_194000
      clear HO_194001
      clear HO_201000
      clear HO_201001
      clear HO_209000
      clear HO_209001
      clear BK178
      clear BK193
      clear BK200
      clear BK208
      clear HB
      have HO_194000 := n0_
      have HO_194001 := n1_
      have HO_201000 := n2_
      have HO_201001 := n3_
      have HO_209000 := n4_
      have HO_209001 := n5_
      have HO212 := n6_
      have HO215 := n7_
      have BK178 := n8_
      have BK193 := n9_
      have BK200 := n10_
      have BK208 := n11_
      have HB := n12_
      clear n0_ n1_ n2_ n3_ n4_ n5_ n6_ n7_ n8_ n9_ n10_ n11_ n12_
      (try clear hb)
      (try clear hb2)
      (try clear hk)
      (try clear hi)
      (try clear ho0)
      (try clear ho1)
      obtain ⟨Ao70, co70, eo70⟩ := Kd.R_slice HO212.out
      (first | subst eo70 | (injection eo70 with f1_ f2_ f3_; have f4_ := f1_.symm; have f5_ := f3_.symm; clear f1_ f2_ f3_; subst f4_; subst f5_))
      obtain ⟨Ao71, co71, eo71⟩ := Kd.R_slice HO215.out
      (first | subst eo71 | (injection eo71 with f1_ f2_ f3_; have f4_ := f1_.symm; have f5_ := f3_.symm; clear f1_ f2_ f3_; subst f4_; subst f5_))
      refine hK.out _ _ ⟨(zC BK200.out 0).trans rfl, (zC BK200.out 1).trans rfl, (zC BK178.out 0).trans rfl, (zC BK178.out 1).trans rfl⟩ (fun hHeld => ?_)
      clear hK K
      refine norm_ (a' := ?_) ?_ ?_
      rotate_left
      ·show Act.put _ (some 55) _ = _
       simp only [Act.put, List.setIfInBounds_toArray, List.set_cons_zero, List.set_cons_succ, i64_w, i32_w]
       rfl
      refine one_ (i := 3) (N := some 56) #[true, true, true, true, false] rfl rfl (by kernel_rfl) (by decide) (fun K hK => ?_)
      refine goes_ Try.func22 (by kernel_rfl) rfl #[.agg #[.slice Ao31 t194.length co31, .slice Ao35 t197.length co35], .agg #[.slice Ao70 t210.length co70, .slice Ao71 t213.length co71]] (by rfl) rfl rfl (by (try simp only [List.map_toArray, List.map_cons, List.map_nil]); first | done | rfl | (simp only [List.length_drop, List.length_take]; rfl)) ?_
      with_reducible refine (laws_eqHrdBook.calls kj13 _ _ t194 _ _ t197 _ _ t210 _ _ t213 true _ ?side1 ?side2 ?side3 ?side4 ?side5 ?side6 ?side7 ?side8 A64.out).mono ?_
      (case side1 => repeat (first | exact (qR HO_201000.out).2.2 | (with_reducible refine Kd.C_alloc ?_ _) | (with_reducible refine Kd.C_drewN ?_ _) | (with_reducible refine Kd.C_drew ?_)))
      (case side2 => exact (qR HO_201000.out).2.1)
      (case side3 => repeat (first | exact (qR HO_201001.out).2.2 | (with_reducible refine Kd.C_alloc ?_ _) | (with_reducible refine Kd.C_drewN ?_ _) | (with_reducible refine Kd.C_drew ?_)))
      (case side4 => exact (qR HO_201001.out).2.1)
      (case side5 => repeat (first | exact (qR HO212.out).2.2 | (with_reducible refine Kd.C_alloc ?_ _) | (with_reducible refine Kd.C_drewN ?_ _) | (with_reducible refine Kd.C_drew ?_)))
      (case side6 => exact (qR HO212.out).2.1)
      (case side7 => repeat (first | exact (qR HO215.out).2.2 | (with_reducible refine Kd.C_alloc ?_ _) | (with_reducible refine Kd.C_drewN ?_ _) | (with_reducible refine Kd.C_drew ?_)))
      (case side8 => exact (qR HO215.out).2.1)
      rintro e w72 ⟨rfl, hb⟩
      refine ⟨_, rfl, ?_⟩
      have n0_ := qM (Kd.R_below (by (with_reducible repeat (first | apply qA | apply qN | apply qD)); exact HO_194000.out) hb)
      have n1_ := qM (Kd.R_below (by (with_reducible repeat (first | apply qA | apply qN | apply qD)); exact HO_194001.out) hb)
      have n2_ := qM (Kd.R_below (by (with_reducible repeat (first | apply qA | apply qN | apply qD)); exact HO_201000.out) hb)
      have n3_ := qM (Kd.R_below (by (with_reducible repeat (first | apply qA | apply qN | apply qD)); exact HO_201001.out) hb)
      have n4_ := qM (Kd.R_below (by (with_reducible repeat (first | apply qA | apply qN | apply qD)); exact HO_209000.out) hb)
      have n5_ := qM (Kd.R_below (by (with_reducible repeat (first | apply qA | apply qN | apply qD)); exact HO_209001.out) hb)
      have n6_ := qM (Kd.R_below (by (with_reducible repeat (first | apply qA | apply qN | apply qD)); exact HO212.out) hb)
      have n7_ := qM (Kd.R_below (by (with_reducible repeat (first | apply qA | apply qN | apply qD)); exact HO215.out) hb)
      have n8_ := qM (blk_below (g := gb178) (o := .cells #[.slice A0_0 l0_0.length c0_0, .slice A0_1 l0_1.length c0_1] 48 (0, 0)) (by (with_reducible repeat (first | refine zN ?_ _ | refine zD ?_ | refine zA ?_ _)); exact BK178.out) hb)
      have n9_ := qM (blk_below (g := gb193) (o := .cells #[.slice Ao24 t186.length co24, .slice Ao27 t189.length co27] 37 (0, 0)) (by (with_reducible repeat (first | refine zN ?_ _ | refine zD ?_ | refine zA ?_ _)); exact BK193.out) hb)
      have n10_ := qM (blk_below (g := gb200) (o := .cells #[.slice Ao31 t194.length co31, .slice Ao35 t197.length co35] 37 (0, 0)) (by (with_reducible repeat (first | refine zN ?_ _ | refine zD ?_ | refine zA ?_ _)); exact BK200.out) hb)
      have n11_ := qM (blk_below (g := gb208) (o := .cells #[.slice Ao38 t201.length co38, .slice Ao43 t204.length co43] 37 (0, 0)) (by (with_reducible repeat (first | refine zN ?_ _ | refine zD ?_ | refine zA ?_ _)); exact BK208.out) hb)
      have n12_ := qM (below_step (by repeat (first | (with_reducible first | exact HB.out | apply yA | apply yN | apply yD | refine yS ?_ GE178.out | refine yS ?_ GE193.out | refine yS ?_ GE200.out | refine yS ?_ GE208.out) | exact HB.out)) hb)
      clear HO_194000
      clear HO_194001
      clear HO_201000
      clear HO_201001
      clear HO_209000
      clear HO_209001
      clear HO212
      clear HO215
      clear BK178
      clear BK193
      clear BK200
      clear BK208
      clear HB
      have HO_194000 := n0_
      have HO_194001 := n1_
      have HO_201000 := n2_
      have HO_201001 := n3_
      have HO_209000 := n4_
      have HO_209001 := n5_
      have HO212 := n6_
      have HO215 := n7_
      have BK178 := n8_
      have BK193 := n9_
      have BK200 := n10_
      have BK208 := n11_
      have HB := n12_
      clear n0_ n1_ n2_ n3_ n4_ n5_ n6_ n7_ n8_ n9_ n10_ n11_ n12_
      (try clear hb)
      (try clear hb2)
      (try clear hk)
      (try clear hi)
      refine hK.out _ _ ⟨(zC BK200.out 0).trans rfl, (zC BK200.out 1).trans rfl, (zC BK178.out 0).trans rfl, (zC BK178.out 1).trans rfl⟩ (fun hHeld => ?_)
      clear hK K
      refine norm_ (a' := ?_) ?_ ?_
      rotate_left
      ·show Act.put _ (some 56) _ = _
       simp only [Act.put, List.setIfInBounds_toArray, List.set_cons_zero, List.set_cons_succ, i64_w, i32_w]
       rfl
      refine pure_ (i := 4) (N := some 57) (v := ?_) (a' := ?_) #[true, true, true, true, true] rfl rfl (by kernel_rfl) (fun _ _ _ h => h) (Or.inl ⟨by rfl, ?_⟩) ?_ ?_
      rotate_left
      ·intro w'
       go_simp
       with_reducible rfl
      rotate_left
      ·simp only [Act.put, List.setIfInBounds_toArray, List.set_cons_zero, List.set_cons_succ, i64_w, i32_w]
       rfl
      refine done_ (by kernel_rfl) ?_
      have hnb73 := NB200_178.out
      have hnc73 := NB178_200.out
      have hnb74 := NB200_193.out
      have hnc74 := NB193_200.out
      have hnb75 := NB200_208.out
      have hnc75 := NB208_200.out
      have hcz76_0 : w72.cell? ⟨gb200, 0, none⟩ = some (.slice Ao31 t194.length co31) := (zC BK200.out 0).trans rfl
      have hcz76_1 : w72.cell? ⟨gb200, 1, none⟩ = some (.slice Ao35 t197.length co35) := (zC BK200.out 1).trans rfl
      have hfz76_0 := zF BK200.out 0
      have hfz76_1 := zF BK200.out 1
      go_upto_region 14 with (first | ((with_reducible refine gate_callee (f := 23) rfl ?_); refine goesL_ (some 60) rfl rfl Try.func23 (by kernel_rfl) rfl #[.agg #[.slice Ao31 t194.length co31, .slice Ao35 t197.length co35], .int .i64 1] rfl (by (try simp only [List.map_toArray, List.map_cons, List.map_nil]); first | done | rfl | (simp only [List.length_drop, List.length_take]; rfl)) ?_; (with_reducible refine (laws_markHrdBook.calls kj13 (fun k_ => some k_ = (.slice Ao31 t194.length co31 : Value).ownBlock) (.slice Ao31 t194.length co31) t194 (fun k_ => some k_ = (.slice Ao35 t197.length co35 : Value).ownBlock) (.slice Ao35 t197.length co35) t197 1 t217 t218 t219 w _ ?side1 ?side2 ?side3 ?side4 ?side5 A66.out).mono ?_); (case side1 => repeat (first | (with_reducible first | exact HB.out | apply yA | apply yN | apply yD | refine yS ?_ GE178.out | refine yS ?_ GE193.out | refine yS ?_ GE200.out | refine yS ?_ GE208.out) | exact HB.out)); (case side2 => exact Kd.R_tight rfl HO_201000.out); (case side3 => exact fun k_ e_ => (HO_201000.out.1 k_ e_.symm).1.1.2.2.1); (case side4 => exact Kd.R_tight rfl HO_201001.out); (case side5 => exact fun k_ e_ => (HO_201001.out.1 k_ e_.symm).1.1.2.2.1); rintro e w77 ⟨rfl, hy0, hy1, hb, hkp⟩; refine ⟨_, rfl, ?_⟩; have n0_ := qM (Kd.R_mono (ok' := fun k_ => some k_ ≠ (.slice Ao27 t189.length co27 : Value).ownBlock ∧ some k_ ≠ (.slice Ao31 t194.length co31 : Value).ownBlock ∧ some k_ ≠ (.slice Ao35 t197.length co35 : Value).ownBlock ∧ some k_ ≠ (.slice Ao38 t201.length co38 : Value).ownBlock ∧ some k_ ≠ (.slice Ao43 t204.length co43 : Value).ownBlock ∧ some k_ ≠ (.slice Ao70 t210.length co70 : Value).ownBlock ∧ some k_ ≠ (.slice Ao71 t213.length co71 : Value).ownBlock) (Kd.R_keptB (HO_194000.out) hkp (fun k_ hk_ hs_ => Or.elim hs_ (fun e_ => (hk_.1.1.2.1) e_) (fun e_ => (hk_.1.1.2.2.1) e_))) (fun k_ hk_ => ⟨hk_.1.1.1.1, hk_.1.1.1.2.1, hk_.1.1.1.2.2.1, hk_.1.1.1.2.2.2.1, hk_.1.1.1.2.2.2.2, hk_.1.1.2, hk_.1.2⟩)); have n1_ := qM (Kd.R_mono (ok' := fun k_ => some k_ ≠ (.slice Ao24 t186.length co24 : Value).ownBlock ∧ some k_ ≠ (.slice Ao31 t194.length co31 : Value).ownBlock ∧ some k_ ≠ (.slice Ao35 t197.length co35 : Value).ownBlock ∧ some k_ ≠ (.slice Ao38 t201.length co38 : Value).ownBlock ∧ some k_ ≠ (.slice Ao43 t204.length co43 : Value).ownBlock ∧ some k_ ≠ (.slice Ao70 t210.length co70 : Value).ownBlock ∧ some k_ ≠ (.slice Ao71 t213.length co71 : Value).ownBlock) (Kd.R_keptB (HO_194001.out) hkp (fun k_ hk_ hs_ => Or.elim hs_ (fun e_ => (hk_.1.1.2.1) e_) (fun e_ => (hk_.1.1.2.2.1) e_))) (fun k_ hk_ => ⟨hk_.1.1.1.1, hk_.1.1.1.2.1, hk_.1.1.1.2.2.1, hk_.1.1.1.2.2.2.1, hk_.1.1.1.2.2.2.2, hk_.1.1.2, hk_.1.2⟩)); have n2_ := qM (Kd.R_reok rfl hy0 (fun k_ e_ => HO_201000.out.1 k_ e_)); have n3_ := qM (Kd.R_reok rfl hy1 (fun k_ e_ => HO_201001.out.1 k_ e_)); have n4_ := qM (Kd.R_mono (ok' := fun k_ => some k_ ≠ (.slice Ao24 t186.length co24 : Value).ownBlock ∧ some k_ ≠ (.slice Ao27 t189.length co27 : Value).ownBlock ∧ some k_ ≠ (.slice Ao31 t194.length co31 : Value).ownBlock ∧ some k_ ≠ (.slice Ao35 t197.length co35 : Value).ownBlock ∧ some k_ ≠ (.slice Ao43 t204.length co43 : Value).ownBlock ∧ some k_ ≠ (.slice Ao70 t210.length co70 : Value).ownBlock ∧ some k_ ≠ (.slice Ao71 t213.length co71 : Value).ownBlock) (Kd.R_keptB (HO_209000.out) hkp (fun k_ hk_ hs_ => Or.elim hs_ (fun e_ => (hk_.1.1.2.2.1) e_) (fun e_ => (hk_.1.1.2.2.2.1) e_))) (fun k_ hk_ => ⟨hk_.1.1.1.1, hk_.1.1.1.2.1, hk_.1.1.1.2.2.1, hk_.1.1.1.2.2.2.1, hk_.1.1.1.2.2.2.2, hk_.1.1.2, hk_.1.2⟩)); have n5_ := qM (Kd.R_mono (ok' := fun k_ => some k_ ≠ (.slice Ao24 t186.length co24 : Value).ownBlock ∧ some k_ ≠ (.slice Ao27 t189.length co27 : Value).ownBlock ∧ some k_ ≠ (.slice Ao31 t194.length co31 : Value).ownBlock ∧ some k_ ≠ (.slice Ao35 t197.length co35 : Value).ownBlock ∧ some k_ ≠ (.slice Ao38 t201.length co38 : Value).ownBlock ∧ some k_ ≠ (.slice Ao70 t210.length co70 : Value).ownBlock ∧ some k_ ≠ (.slice Ao71 t213.length co71 : Value).ownBlock) (Kd.R_keptB (HO_209001.out) hkp (fun k_ hk_ hs_ => Or.elim hs_ (fun e_ => (hk_.1.1.2.2.1) e_) (fun e_ => (hk_.1.1.2.2.2.1) e_))) (fun k_ hk_ => ⟨hk_.1.1.1.1, hk_.1.1.1.2.1, hk_.1.1.1.2.2.1, hk_.1.1.1.2.2.2.1, hk_.1.1.1.2.2.2.2, hk_.1.1.2, hk_.1.2⟩)); have n6_ := qM (blk_kept (by (with_reducible repeat (first | refine zN ?_ _ | refine zD ?_ | refine zA ?_ _)); exact BK178.out) hkp (fun hs_ => Or.elim hs_ (fun e_ => (fun e_ => (Kd.R_ne HO_201000.out BK178.out (by decide)) e_) e_) (fun e_ => (fun e_ => (Kd.R_ne HO_201001.out BK178.out (by decide)) e_) e_))); have n7_ := qM (blk_kept (by (with_reducible repeat (first | refine zN ?_ _ | refine zD ?_ | refine zA ?_ _)); exact BK193.out) hkp (fun hs_ => Or.elim hs_ (fun e_ => (fun e_ => (Kd.R_ne HO_201000.out BK193.out (by decide)) e_) e_) (fun e_ => (fun e_ => (Kd.R_ne HO_201001.out BK193.out (by decide)) e_) e_))); have n8_ := qM (blk_kept (by (with_reducible repeat (first | refine zN ?_ _ | refine zD ?_ | refine zA ?_ _)); exact BK200.out) hkp (fun hs_ => Or.elim hs_ (fun e_ => (fun e_ => (Kd.R_ne HO_201000.out BK200.out (by decide)) e_) e_) (fun e_ => (fun e_ => (Kd.R_ne HO_201001.out BK200.out (by decide)) e_) e_))); have n9_ := qM (blk_kept (by (with_reducible repeat (first | refine zN ?_ _ | refine zD ?_ | refine zA ?_ _)); exact BK208.out) hkp (fun hs_ => Or.elim hs_ (fun e_ => (fun e_ => (Kd.R_ne HO_201000.out BK208.out (by decide)) e_) e_) (fun e_ => (fun e_ => (Kd.R_ne HO_201001.out BK208.out (by decide)) e_) e_))); have n10_ := qM (Kd.R_mono (ok' := fun k_ => some k_ ≠ (.slice Ao24 t186.length co24 : Value).ownBlock ∧ some k_ ≠ (.slice Ao27 t189.length co27 : Value).ownBlock ∧ some k_ ≠ (.slice Ao31 t194.length co31 : Value).ownBlock ∧ some k_ ≠ (.slice Ao35 t197.length co35 : Value).ownBlock ∧ some k_ ≠ (.slice Ao38 t201.length co38 : Value).ownBlock ∧ some k_ ≠ (.slice Ao43 t204.length co43 : Value).ownBlock ∧ some k_ ≠ (.slice Ao71 t213.length co71 : Value).ownBlock) (Kd.R_keptB (HO212.out) hkp (fun k_ hk_ hs_ => Or.elim hs_ (fun e_ => (hk_.1.1.1.2) e_) (fun e_ => (hk_.1.1.2) e_))) (fun k_ hk_ => ⟨hk_.1.1.1.1.1.1.2, hk_.1.1.1.1.1.2, hk_.1.1.1.1.2, hk_.1.1.1.2, hk_.1.1.2, hk_.1.2, hk_.1.1.1.1.1.1.1⟩)); have n11_ := qM (Kd.R_mono (ok' := fun k_ => some k_ ≠ (.slice Ao24 t186.length co24 : Value).ownBlock ∧ some k_ ≠ (.slice Ao27 t189.length co27 : Value).ownBlock ∧ some k_ ≠ (.slice Ao31 t194.length co31 : Value).ownBlock ∧ some k_ ≠ (.slice Ao35 t197.length co35 : Value).ownBlock ∧ some k_ ≠ (.slice Ao38 t201.length co38 : Value).ownBlock ∧ some k_ ≠ (.slice Ao43 t204.length co43 : Value).ownBlock ∧ some k_ ≠ (.slice Ao70 t210.length co70 : Value).ownBlock) (Kd.R_keptB (HO215.out) hkp (fun k_ hk_ hs_ => Or.elim hs_ (fun e_ => (hk_.1.1.1.2) e_) (fun e_ => (hk_.1.1.2) e_))) (fun k_ hk_ => ⟨hk_.1.1.1.1.1.1.2, hk_.1.1.1.1.1.2, hk_.1.1.1.1.2, hk_.1.1.1.2, hk_.1.1.2, hk_.1.2, hk_.1.1.1.1.1.1.1⟩)); have n12_ := qM (hb); clear HO_194000; clear HO_194001; clear HO_201000; clear HO_201001; clear HO_209000; clear HO_209001; clear BK178; clear BK193; clear BK200; clear BK208; clear HO212; clear HO215; clear HB; have HO_194000 := n0_; have HO_194001 := n1_; have HO_201000 := n2_; have HO_201001 := n3_; have HO_209000 := n4_; have HO_209001 := n5_; have BK178 := n6_; have BK193 := n7_; have BK200 := n8_; have BK208 := n9_; have HO212 := n10_; have HO215 := n11_; have HB := n12_; clear n0_ n1_ n2_ n3_ n4_ n5_ n6_ n7_ n8_ n9_ n10_ n11_ n12_; (try clear hb); (try clear hkp); (try clear hy0); (try clear hy1)))
      (try simp only [Act.put, List.setIfInBounds_toArray, List.set_cons_zero, List.set_cons_succ])
      go_cut [73] (fun v73 wc => ∃ (kq : Nat) (x73_66 : Bool), v73 = .bool x73_66 ∧ Aside0 (laws_FnExactHrdHear.j1 kq a1 a2 a3 t192 x73_66 l0_0 l0_1 t186 t189 t201 t204 = some r) ∧ Aside0 (kq ≤ kj13) ∧ Aside0 (Kd.R (Kd.int .i64) 3 wc w.heap.size (fun k_ => some k_ ≠ ((.slice Ao27 t189.length co27) : Value).ownBlock ∧ some k_ ≠ ((.slice Ao31 t194.length co31) : Value).ownBlock ∧ some k_ ≠ ((.slice Ao35 t197.length co35) : Value).ownBlock ∧ some k_ ≠ ((.slice Ao38 t201.length co38) : Value).ownBlock ∧ some k_ ≠ ((.slice Ao43 t204.length co43) : Value).ownBlock) (.slice Ao24 t186.length co24) t186) ∧ Aside0 (Kd.R (Kd.int .i64) 3 wc w.heap.size (fun k_ => some k_ ≠ ((.slice Ao24 t186.length co24) : Value).ownBlock ∧ some k_ ≠ ((.slice Ao31 t194.length co31) : Value).ownBlock ∧ some k_ ≠ ((.slice Ao35 t197.length co35) : Value).ownBlock ∧ some k_ ≠ ((.slice Ao38 t201.length co38) : Value).ownBlock ∧ some k_ ≠ ((.slice Ao43 t204.length co43) : Value).ownBlock) (.slice Ao27 t189.length co27) t189) ∧ Aside0 (Kd.R (Kd.int .i64) 3 wc w.heap.size (fun k_ => some k_ ≠ ((.slice Ao24 t186.length co24) : Value).ownBlock ∧ some k_ ≠ ((.slice Ao27 t189.length co27) : Value).ownBlock ∧ some k_ ≠ ((.slice Ao35 t197.length co35) : Value).ownBlock ∧ some k_ ≠ ((.slice Ao38 t201.length co38) : Value).ownBlock ∧ some k_ ≠ ((.slice Ao43 t204.length co43) : Value).ownBlock) (.slice Ao31 t194.length co31) t218) ∧ Aside0 (Kd.R (Kd.int .i64) 3 wc w.heap.size (fun k_ => some k_ ≠ ((.slice Ao24 t186.length co24) : Value).ownBlock ∧ some k_ ≠ ((.slice Ao27 t189.length co27) : Value).ownBlock ∧ some k_ ≠ ((.slice Ao31 t194.length co31) : Value).ownBlock ∧ some k_ ≠ ((.slice Ao38 t201.length co38) : Value).ownBlock ∧ some k_ ≠ ((.slice Ao43 t204.length co43) : Value).ownBlock) (.slice Ao35 t197.length co35) t219) ∧ Aside0 (Kd.R (Kd.int .i64) 3 wc w.heap.size (fun k_ => some k_ ≠ ((.slice Ao24 t186.length co24) : Value).ownBlock ∧ some k_ ≠ ((.slice Ao27 t189.length co27) : Value).ownBlock ∧ some k_ ≠ ((.slice Ao31 t194.length co31) : Value).ownBlock ∧ some k_ ≠ ((.slice Ao35 t197.length co35) : Value).ownBlock ∧ some k_ ≠ ((.slice Ao43 t204.length co43) : Value).ownBlock) (.slice Ao38 t201.length co38) t201) ∧ Aside0 (Kd.R (Kd.int .i64) 3 wc w.heap.size (fun k_ => some k_ ≠ ((.slice Ao24 t186.length co24) : Value).ownBlock ∧ some k_ ≠ ((.slice Ao27 t189.length co27) : Value).ownBlock ∧ some k_ ≠ ((.slice Ao31 t194.length co31) : Value).ownBlock ∧ some k_ ≠ ((.slice Ao35 t197.length co35) : Value).ownBlock ∧ some k_ ≠ ((.slice Ao38 t201.length co38) : Value).ownBlock) (.slice Ao43 t204.length co43) t204) ∧ Aside0 (wc.heap[gb178]? = some (.cells #[(.slice A0_0 l0_0.length c0_0), (.slice A0_1 l0_1.length c0_1)] 48 (0, 0))) ∧ Aside0 (wc.heap[gb193]? = some (.cells #[(.slice Ao24 t186.length co24), (.slice Ao27 t189.length co27)] 37 (0, 0))) ∧ Aside0 (wc.heap[gb200]? = some (.cells #[(.slice Ao31 t194.length co31), (.slice Ao35 t197.length co35)] 37 (0, 0))) ∧ Aside0 (wc.heap[gb208]? = some (.cells #[(.slice Ao38 t201.length co38), (.slice Ao43 t204.length co43)] 37 (0, 0))) ∧ Aside0 (Below w.heap.size w wc))
      case first =>
       have H := HC67.out
       clear HC67
       by_cases c78 : t217 < 0
       ·rw [if_pos c78] at H
        have c78b0 : decide (t217 < 0) = true := decide_eq_true c78
        clear c78
        (first | rw [c78b0] | (simp only [i64_w, i32_w]; rw [c78b0]) | skip)
        have H' := qM H
        clear H
        go_wp2
        go_meet
        case rel => exact ⟨_, (true), (by first | rfl | (simp; done) | (simp [*]; done)), H', ⟨by have := HJ13.out; first | omega | exact Nat.le_refl _⟩, ⟨by (with_reducible repeat (first | apply qA | apply qN | apply qD)); exact Kd.R_mono HO_194000.out (fun _ hk => ⟨hk.1, ⟨hk.2.1, ⟨hk.2.2.1, ⟨hk.2.2.2.1, hk.2.2.2.2.1⟩⟩⟩⟩)⟩, ⟨by (with_reducible repeat (first | apply qA | apply qN | apply qD)); exact Kd.R_mono HO_194001.out (fun _ hk => ⟨hk.1, ⟨hk.2.1, ⟨hk.2.2.1, ⟨hk.2.2.2.1, hk.2.2.2.2.1⟩⟩⟩⟩)⟩, ⟨by (with_reducible repeat (first | apply qA | apply qN | apply qD)); exact Kd.R_mono HO_201000.out (fun _ hk => ⟨hk.1.1.1, ⟨hk.1.1.2.1, ⟨hk.1.1.2.2.1, ⟨hk.1.1.2.2.2.1, hk.1.1.2.2.2.2⟩⟩⟩⟩)⟩, ⟨by (with_reducible repeat (first | apply qA | apply qN | apply qD)); exact Kd.R_mono HO_201001.out (fun _ hk => ⟨hk.1.1.1, ⟨hk.1.1.2.1, ⟨hk.1.1.2.2.1, ⟨hk.1.1.2.2.2.1, hk.1.1.2.2.2.2⟩⟩⟩⟩)⟩, ⟨by (with_reducible repeat (first | apply qA | apply qN | apply qD)); exact Kd.R_mono HO_209000.out (fun _ hk => ⟨hk.1, ⟨hk.2.1, ⟨hk.2.2.1, ⟨hk.2.2.2.1, hk.2.2.2.2.1⟩⟩⟩⟩)⟩, ⟨by (with_reducible repeat (first | apply qA | apply qN | apply qD)); exact Kd.R_mono HO_209001.out (fun _ hk => ⟨hk.1, ⟨hk.2.1, ⟨hk.2.2.1, ⟨hk.2.2.2.1, hk.2.2.2.2.1⟩⟩⟩⟩)⟩, ⟨by (with_reducible repeat (first | refine zN ?_ _ | refine zD ?_ | refine zA ?_ _)); exact BK178.out⟩, ⟨by (with_reducible repeat (first | refine zN ?_ _ | refine zD ?_ | refine zA ?_ _)); exact BK193.out⟩, ⟨by (with_reducible repeat (first | refine zN ?_ _ | refine zD ?_ | refine zA ?_ _)); exact BK200.out⟩, ⟨by (with_reducible repeat (first | refine zN ?_ _ | refine zD ?_ | refine zA ?_ _)); exact BK208.out⟩, ⟨by repeat (first | (with_reducible first | exact HB.out | apply yA | apply yN | apply yD | refine yS ?_ GE178.out | refine yS ?_ GE193.out | refine yS ?_ GE200.out | refine yS ?_ GE208.out) | exact HB.out)⟩⟩
       ·rw [if_neg c78] at H
        have c78b0 : decide (t217 < 0) = false := decide_eq_false c78
        clear c78
        (first | rw [c78b0] | (simp only [i64_w, i32_w]; rw [c78b0]) | skip)
        replace H := Option.bind_eq_some_iff.mp H
        obtain ⟨t220, A790, H⟩ := H
        replace H : (if t220 = true then (laws_FnExactHrdHear.j1 kj13 a1 a2 a3 t192 (t207 != t192) l0_0 l0_1 t186 t189 t201 t204) else (laws_FnExactHrdHear.j1 kj13 a1 a2 a3 t192 true l0_0 l0_1 t186 t189 t201 t204)) = some r := H
        have A79 := qM A790
        clear A790
        by_cases c80 : t220 = true
        ·subst c80
         have H1 : (laws_FnExactHrdHear.j1 kj13 a1 a2 a3 t192 (t207 != t192) l0_0 l0_1 t186 t189 t201 t204) = some r := by rw [if_pos rfl] at H; exact H
         clear H
         have H := H1
         clear H1
         have H' := qM H
         clear H
         have hnb81 := NB208_178.out
         have hnc81 := NB178_208.out
         have hnb82 := NB208_193.out
         have hnc82 := NB193_208.out
         have hnb83 := NB208_200.out
         have hnc83 := NB200_208.out
         have hcz84_0 : w77.cell? ⟨gb208, 0, none⟩ = some (.slice Ao38 t201.length co38) := (zC BK208.out 0).trans rfl
         have hcz84_1 : w77.cell? ⟨gb208, 1, none⟩ = some (.slice Ao43 t204.length co43) := (zC BK208.out 1).trans rfl
         have hfz84_0 := zF BK208.out 0
         have hfz84_1 := zF BK208.out 1
         have hnb85 := NB193_178.out
         have hnc85 := NB178_193.out
         have hnb86 := NB193_200.out
         have hnc86 := NB200_193.out
         have hcz87_0 : w77.cell? ⟨gb193, 0, none⟩ = some (.slice Ao24 t186.length co24) := (zC BK193.out 0).trans rfl
         have hcz87_1 : w77.cell? ⟨gb193, 1, none⟩ = some (.slice Ao27 t189.length co27) := (zC BK193.out 1).trans rfl
         have hfz87_0 := zF BK193.out 0
         have hfz87_1 := zF BK193.out 1
         go_wp2_with (first | (go_at_call 22; (with_reducible refine (laws_eqHrdBook.calls kj13 _ _ t201 _ _ t204 _ _ t186 _ _ t189 true _ ?side1 ?side2 ?side3 ?side4 ?side5 ?side6 ?side7 ?side8 A79.out).mono ?_); (case side1 => repeat (first | exact (qR HO_209000.out).2.2 | (with_reducible refine Kd.C_alloc ?_ _) | (with_reducible refine Kd.C_drewN ?_ _) | (with_reducible refine Kd.C_drew ?_))); (case side2 => exact (qR HO_209000.out).2.1); (case side3 => repeat (first | exact (qR HO_209001.out).2.2 | (with_reducible refine Kd.C_alloc ?_ _) | (with_reducible refine Kd.C_drewN ?_ _) | (with_reducible refine Kd.C_drew ?_))); (case side4 => exact (qR HO_209001.out).2.1); (case side5 => repeat (first | exact (qR HO_194000.out).2.2 | (with_reducible refine Kd.C_alloc ?_ _) | (with_reducible refine Kd.C_drewN ?_ _) | (with_reducible refine Kd.C_drew ?_))); (case side6 => exact (qR HO_194000.out).2.1); (case side7 => repeat (first | exact (qR HO_194001.out).2.2 | (with_reducible refine Kd.C_alloc ?_ _) | (with_reducible refine Kd.C_drewN ?_ _) | (with_reducible refine Kd.C_drew ?_))); (case side8 => exact (qR HO_194001.out).2.1); rintro e w88 ⟨rfl, hb⟩; have n0_ := qM (Kd.R_below (by (with_reducible repeat (first | apply qA | apply qN | apply qD)); exact HO_194000.out) hb); have n1_ := qM (Kd.R_below (by (with_reducible repeat (first | apply qA | apply qN | apply qD)); exact HO_194001.out) hb); have n2_ := qM (Kd.R_below (by (with_reducible repeat (first | apply qA | apply qN | apply qD)); exact HO_201000.out) hb); have n3_ := qM (Kd.R_below (by (with_reducible repeat (first | apply qA | apply qN | apply qD)); exact HO_201001.out) hb); have n4_ := qM (Kd.R_below (by (with_reducible repeat (first | apply qA | apply qN | apply qD)); exact HO_209000.out) hb); have n5_ := qM (Kd.R_below (by (with_reducible repeat (first | apply qA | apply qN | apply qD)); exact HO_209001.out) hb); have n6_ := qM (Kd.R_below (by (with_reducible repeat (first | apply qA | apply qN | apply qD)); exact HO212.out) hb); have n7_ := qM (Kd.R_below (by (with_reducible repeat (first | apply qA | apply qN | apply qD)); exact HO215.out) hb); have n8_ := qM (blk_below (g := gb178) (o := .cells #[.slice A0_0 l0_0.length c0_0, .slice A0_1 l0_1.length c0_1] 48 (0, 0)) (by (with_reducible repeat (first | refine zN ?_ _ | refine zD ?_ | refine zA ?_ _)); exact BK178.out) hb); have n9_ := qM (blk_below (g := gb193) (o := .cells #[.slice Ao24 t186.length co24, .slice Ao27 t189.length co27] 37 (0, 0)) (by (with_reducible repeat (first | refine zN ?_ _ | refine zD ?_ | refine zA ?_ _)); exact BK193.out) hb); have n10_ := qM (blk_below (g := gb200) (o := .cells #[.slice Ao31 t194.length co31, .slice Ao35 t197.length co35] 37 (0, 0)) (by (with_reducible repeat (first | refine zN ?_ _ | refine zD ?_ | refine zA ?_ _)); exact BK200.out) hb); have n11_ := qM (blk_below (g := gb208) (o := .cells #[.slice Ao38 t201.length co38, .slice Ao43 t204.length co43] 37 (0, 0)) (by (with_reducible repeat (first | refine zN ?_ _ | refine zD ?_ | refine zA ?_ _)); exact BK208.out) hb); have n12_ := qM (below_step (by repeat (first | (with_reducible first | exact HB.out | apply yA | apply yN | apply yD | refine yS ?_ GE178.out | refine yS ?_ GE193.out | refine yS ?_ GE200.out | refine yS ?_ GE208.out) | exact HB.out)) hb); clear HO_194000; clear HO_194001; clear HO_201000; clear HO_201001; clear HO_209000; clear HO_209001; clear HO212; clear HO215; clear BK178; clear BK193; clear BK200; clear BK208; clear HB; have HO_194000 := n0_; have HO_194001 := n1_; have HO_201000 := n2_; have HO_201001 := n3_; have HO_209000 := n4_; have HO_209001 := n5_; have HO212 := n6_; have HO215 := n7_; have BK178 := n8_; have BK193 := n9_; have BK200 := n10_; have BK208 := n11_; have HB := n12_; clear n0_ n1_ n2_ n3_ n4_ n5_ n6_ n7_ n8_ n9_ n10_ n11_ n12_; (try clear hb); (try clear hb2); (try clear hk); (try clear hi)))
         go_meet
         case rel => exact ⟨_, ((t207 != t192)), (by first | rfl | (simp; done) | (simp [*]; done)), H', ⟨by have := HJ13.out; first | omega | exact Nat.le_refl _⟩, ⟨by (with_reducible repeat (first | apply qA | apply qN | apply qD)); exact Kd.R_mono HO_194000.out (fun _ hk => ⟨hk.1, ⟨hk.2.1, ⟨hk.2.2.1, ⟨hk.2.2.2.1, hk.2.2.2.2.1⟩⟩⟩⟩)⟩, ⟨by (with_reducible repeat (first | apply qA | apply qN | apply qD)); exact Kd.R_mono HO_194001.out (fun _ hk => ⟨hk.1, ⟨hk.2.1, ⟨hk.2.2.1, ⟨hk.2.2.2.1, hk.2.2.2.2.1⟩⟩⟩⟩)⟩, ⟨by (with_reducible repeat (first | apply qA | apply qN | apply qD)); exact Kd.R_mono HO_201000.out (fun _ hk => ⟨hk.1.1.1, ⟨hk.1.1.2.1, ⟨hk.1.1.2.2.1, ⟨hk.1.1.2.2.2.1, hk.1.1.2.2.2.2⟩⟩⟩⟩)⟩, ⟨by (with_reducible repeat (first | apply qA | apply qN | apply qD)); exact Kd.R_mono HO_201001.out (fun _ hk => ⟨hk.1.1.1, ⟨hk.1.1.2.1, ⟨hk.1.1.2.2.1, ⟨hk.1.1.2.2.2.1, hk.1.1.2.2.2.2⟩⟩⟩⟩)⟩, ⟨by (with_reducible repeat (first | apply qA | apply qN | apply qD)); exact Kd.R_mono HO_209000.out (fun _ hk => ⟨hk.1, ⟨hk.2.1, ⟨hk.2.2.1, ⟨hk.2.2.2.1, hk.2.2.2.2.1⟩⟩⟩⟩)⟩, ⟨by (with_reducible repeat (first | apply qA | apply qN | apply qD)); exact Kd.R_mono HO_209001.out (fun _ hk => ⟨hk.1, ⟨hk.2.1, ⟨hk.2.2.1, ⟨hk.2.2.2.1, hk.2.2.2.2.1⟩⟩⟩⟩)⟩, ⟨by (with_reducible repeat (first | refine zN ?_ _ | refine zD ?_ | refine zA ?_ _)); exact BK178.out⟩, ⟨by (with_reducible repeat (first | refine zN ?_ _ | refine zD ?_ | refine zA ?_ _)); exact BK193.out⟩, ⟨by (with_reducible repeat (first | refine zN ?_ _ | refine zD ?_ | refine zA ?_ _)); exact BK200.out⟩, ⟨by (with_reducible repeat (first | refine zN ?_ _ | refine zD ?_ | refine zA ?_ _)); exact BK208.out⟩, ⟨by repeat (first | (with_reducible first | exact HB.out | apply yA | apply yN | apply yD | refine yS ?_ GE178.out | refine yS ?_ GE193.out | refine yS ?_ GE200.out | refine yS ?_ GE208.out) | exact HB.out)⟩⟩
        ·replace c80 := Bool.eq_false_iff.mpr c80
         subst c80
         have H1 : (laws_FnExactHrdHear.j1 kj13 a1 a2 a3 t192 true l0_0 l0_1 t186 t189 t201 t204) = some r := by rw [if_neg (show ¬ (false = true) by decide)] at H; exact H
         clear H
         have H := H1
         clear H1
         have H' := qM H
         clear H
         have hnb89 := NB208_178.out
         have hnc89 := NB178_208.out
         have hnb90 := NB208_193.out
         have hnc90 := NB193_208.out
         have hnb91 := NB208_200.out
         have hnc91 := NB200_208.out
         have hcz92_0 : w77.cell? ⟨gb208, 0, none⟩ = some (.slice Ao38 t201.length co38) := (zC BK208.out 0).trans rfl
         have hcz92_1 : w77.cell? ⟨gb208, 1, none⟩ = some (.slice Ao43 t204.length co43) := (zC BK208.out 1).trans rfl
         have hfz92_0 := zF BK208.out 0
         have hfz92_1 := zF BK208.out 1
         have hnb93 := NB193_178.out
         have hnc93 := NB178_193.out
         have hnb94 := NB193_200.out
         have hnc94 := NB200_193.out
         have hcz95_0 : w77.cell? ⟨gb193, 0, none⟩ = some (.slice Ao24 t186.length co24) := (zC BK193.out 0).trans rfl
         have hcz95_1 : w77.cell? ⟨gb193, 1, none⟩ = some (.slice Ao27 t189.length co27) := (zC BK193.out 1).trans rfl
         have hfz95_0 := zF BK193.out 0
         have hfz95_1 := zF BK193.out 1
         go_wp2_with (first | (go_at_call 22; (with_reducible refine (laws_eqHrdBook.calls kj13 _ _ t201 _ _ t204 _ _ t186 _ _ t189 false _ ?side1 ?side2 ?side3 ?side4 ?side5 ?side6 ?side7 ?side8 A79.out).mono ?_); (case side1 => repeat (first | exact (qR HO_209000.out).2.2 | (with_reducible refine Kd.C_alloc ?_ _) | (with_reducible refine Kd.C_drewN ?_ _) | (with_reducible refine Kd.C_drew ?_))); (case side2 => exact (qR HO_209000.out).2.1); (case side3 => repeat (first | exact (qR HO_209001.out).2.2 | (with_reducible refine Kd.C_alloc ?_ _) | (with_reducible refine Kd.C_drewN ?_ _) | (with_reducible refine Kd.C_drew ?_))); (case side4 => exact (qR HO_209001.out).2.1); (case side5 => repeat (first | exact (qR HO_194000.out).2.2 | (with_reducible refine Kd.C_alloc ?_ _) | (with_reducible refine Kd.C_drewN ?_ _) | (with_reducible refine Kd.C_drew ?_))); (case side6 => exact (qR HO_194000.out).2.1); (case side7 => repeat (first | exact (qR HO_194001.out).2.2 | (with_reducible refine Kd.C_alloc ?_ _) | (with_reducible refine Kd.C_drewN ?_ _) | (with_reducible refine Kd.C_drew ?_))); (case side8 => exact (qR HO_194001.out).2.1); rintro e w96 ⟨rfl, hb⟩; have n0_ := qM (Kd.R_below (by (with_reducible repeat (first | apply qA | apply qN | apply qD)); exact HO_194000.out) hb); have n1_ := qM (Kd.R_below (by (with_reducible repeat (first | apply qA | apply qN | apply qD)); exact HO_194001.out) hb); have n2_ := qM (Kd.R_below (by (with_reducible repeat (first | apply qA | apply qN | apply qD)); exact HO_201000.out) hb); have n3_ := qM (Kd.R_below (by (with_reducible repeat (first | apply qA | apply qN | apply qD)); exact HO_201001.out) hb); have n4_ := qM (Kd.R_below (by (with_reducible repeat (first | apply qA | apply qN | apply qD)); exact HO_209000.out) hb); have n5_ := qM (Kd.R_below (by (with_reducible repeat (first | apply qA | apply qN | apply qD)); exact HO_209001.out) hb); have n6_ := qM (Kd.R_below (by (with_reducible repeat (first | apply qA | apply qN | apply qD)); exact HO212.out) hb); have n7_ := qM (Kd.R_below (by (with_reducible repeat (first | apply qA | apply qN | apply qD)); exact HO215.out) hb); have n8_ := qM (blk_below (g := gb178) (o := .cells #[.slice A0_0 l0_0.length c0_0, .slice A0_1 l0_1.length c0_1] 48 (0, 0)) (by (with_reducible repeat (first | refine zN ?_ _ | refine zD ?_ | refine zA ?_ _)); exact BK178.out) hb); have n9_ := qM (blk_below (g := gb193) (o := .cells #[.slice Ao24 t186.length co24, .slice Ao27 t189.length co27] 37 (0, 0)) (by (with_reducible repeat (first | refine zN ?_ _ | refine zD ?_ | refine zA ?_ _)); exact BK193.out) hb); have n10_ := qM (blk_below (g := gb200) (o := .cells #[.slice Ao31 t194.length co31, .slice Ao35 t197.length co35] 37 (0, 0)) (by (with_reducible repeat (first | refine zN ?_ _ | refine zD ?_ | refine zA ?_ _)); exact BK200.out) hb); have n11_ := qM (blk_below (g := gb208) (o := .cells #[.slice Ao38 t201.length co38, .slice Ao43 t204.length co43] 37 (0, 0)) (by (with_reducible repeat (first | refine zN ?_ _ | refine zD ?_ | refine zA ?_ _)); exact BK208.out) hb); have n12_ := qM (below_step (by repeat (first | (with_reducible first | exact HB.out | apply yA | apply yN | apply yD | refine yS ?_ GE178.out | refine yS ?_ GE193.out | refine yS ?_ GE200.out | refine yS ?_ GE208.out) | exact HB.out)) hb); clear HO_194000; clear HO_194001; clear HO_201000; clear HO_201001; clear HO_209000; clear HO_209001; clear HO212; clear HO215; clear BK178; clear BK193; clear BK200; clear BK208; clear HB; have HO_194000 := n0_; have HO_194001 := n1_; have HO_201000 := n2_; have HO_201001 := n3_; have HO_209000 := n4_; have HO_209001 := n5_; have HO212 := n6_; have HO215 := n7_; have BK178 := n8_; have BK193 := n9_; have BK200 := n10_; have BK208 := n11_; have HB := n12_; clear n0_ n1_ n2_ n3_ n4_ n5_ n6_ n7_ n8_ n9_ n10_ n11_ n12_; (try clear hb); (try clear hb2); (try clear hk); (try clear hi)))
         go_meet
         case rel => exact ⟨_, (true), (by first | rfl | (simp; done) | (simp [*]; done)), H', ⟨by have := HJ13.out; first | omega | exact Nat.le_refl _⟩, ⟨by (with_reducible repeat (first | apply qA | apply qN | apply qD)); exact Kd.R_mono HO_194000.out (fun _ hk => ⟨hk.1, ⟨hk.2.1, ⟨hk.2.2.1, ⟨hk.2.2.2.1, hk.2.2.2.2.1⟩⟩⟩⟩)⟩, ⟨by (with_reducible repeat (first | apply qA | apply qN | apply qD)); exact Kd.R_mono HO_194001.out (fun _ hk => ⟨hk.1, ⟨hk.2.1, ⟨hk.2.2.1, ⟨hk.2.2.2.1, hk.2.2.2.2.1⟩⟩⟩⟩)⟩, ⟨by (with_reducible repeat (first | apply qA | apply qN | apply qD)); exact Kd.R_mono HO_201000.out (fun _ hk => ⟨hk.1.1.1, ⟨hk.1.1.2.1, ⟨hk.1.1.2.2.1, ⟨hk.1.1.2.2.2.1, hk.1.1.2.2.2.2⟩⟩⟩⟩)⟩, ⟨by (with_reducible repeat (first | apply qA | apply qN | apply qD)); exact Kd.R_mono HO_201001.out (fun _ hk => ⟨hk.1.1.1, ⟨hk.1.1.2.1, ⟨hk.1.1.2.2.1, ⟨hk.1.1.2.2.2.1, hk.1.1.2.2.2.2⟩⟩⟩⟩)⟩, ⟨by (with_reducible repeat (first | apply qA | apply qN | apply qD)); exact Kd.R_mono HO_209000.out (fun _ hk => ⟨hk.1, ⟨hk.2.1, ⟨hk.2.2.1, ⟨hk.2.2.2.1, hk.2.2.2.2.1⟩⟩⟩⟩)⟩, ⟨by (with_reducible repeat (first | apply qA | apply qN | apply qD)); exact Kd.R_mono HO_209001.out (fun _ hk => ⟨hk.1, ⟨hk.2.1, ⟨hk.2.2.1, ⟨hk.2.2.2.1, hk.2.2.2.2.1⟩⟩⟩⟩)⟩, ⟨by (with_reducible repeat (first | refine zN ?_ _ | refine zD ?_ | refine zA ?_ _)); exact BK178.out⟩, ⟨by (with_reducible repeat (first | refine zN ?_ _ | refine zD ?_ | refine zA ?_ _)); exact BK193.out⟩, ⟨by (with_reducible repeat (first | refine zN ?_ _ | refine zD ?_ | refine zA ?_ _)); exact BK200.out⟩, ⟨by (with_reducible repeat (first | refine zN ?_ _ | refine zD ?_ | refine zA ?_ _)); exact BK208.out⟩, ⟨by repeat (first | (with_reducible first | exact HB.out | apply yA | apply yN | apply yD | refine yS ?_ GE178.out | refine yS ?_ GE193.out | refine yS ?_ GE200.out | refine yS ?_ GE208.out) | exact HB.out)⟩⟩
      case rest =>
       clear HC67
       try clear c2
       try clear p2
       try clear c3
       try clear c4
       try clear c5
       try clear c6
       try clear c6b0
       try clear c7
       try clear c8
       try clear c9
       try clear c22
       try clear c23
       try clear c25
       try clear c26
       try clear c27
       try clear c30
       try clear c31
       try clear c32
       try clear c33
       try clear c39
       try clear c40
       try clear c41
       try clear c45
       try clear c46
       try clear c47
       try clear c48
       try clear c50
       try clear c51
       try clear c54
       try clear c55
       try clear c56
       try clear c58
       try clear c59
       try clear c62
       try clear c65
       try clear c73
       try clear c74
       try clear c75
       try clear c78
       try clear c78b0
       try clear c80
       try clear c81
       try clear c82
       try clear c83
       try clear c85
       try clear c86
       try clear c89
       try clear c90
       try clear c91
       try clear c93
       try clear c94
       try clear hcz16_0
       try clear hcz16_1
       try clear hcz18_0
       try clear hcz18_1
       try clear hcz26_0
       try clear hcz26_1
       try clear hcz28_0
       try clear hcz28_1
       try clear hcz34_0
       try clear hcz34_1
       try clear hcz42_0
       try clear hcz42_1
       try clear hcz49_0
       try clear hcz49_1
       try clear hcz52_0
       try clear hcz52_1
       try clear hcz57_0
       try clear hcz57_1
       try clear hcz60_0
       try clear hcz60_1
       try clear hcz76_0
       try clear hcz76_1
       try clear hcz84_0
       try clear hcz84_1
       try clear hcz87_0
       try clear hcz87_1
       try clear hcz8_0
       try clear hcz8_1
       try clear hcz92_0
       try clear hcz92_1
       try clear hcz95_0
       try clear hcz95_1
       try clear hfz16_0
       try clear hfz16_1
       try clear hfz18_0
       try clear hfz18_1
       try clear hfz26_0
       try clear hfz26_1
       try clear hfz28_0
       try clear hfz28_1
       try clear hfz34_0
       try clear hfz34_1
       try clear hfz42_0
       try clear hfz42_1
       try clear hfz49_0
       try clear hfz49_1
       try clear hfz52_0
       try clear hfz52_1
       try clear hfz57_0
       try clear hfz57_1
       try clear hfz60_0
       try clear hfz60_1
       try clear hfz76_0
       try clear hfz76_1
       try clear hfz84_0
       try clear hfz84_1
       try clear hfz87_0
       try clear hfz87_1
       try clear hfz8_0
       try clear hfz8_1
       try clear hfz92_0
       try clear hfz92_1
       try clear hfz95_0
       try clear hfz95_1
       try clear p2
       obtain ⟨kq, x73_66, rfl, HA, HJ66, HO_194000, HO_194001, HO_201000, HO_201001, HO_209000, HO_209001, BK178, BK193, BK200, BK208, HB⟩ := hcut
       have hl201000_66 := (qR HO_201000.out).1
       rw [hl201000_66] at HO_201000
       (try simp only [hl201000_66])
       (try simp only [hl201000_66] at BK178)
       (try simp only [hl201000_66] at BK193)
       (try simp only [hl201000_66] at BK200)
       (try simp only [hl201000_66] at BK208)
       (try simp only [hl201000_66] at HO_194000)
       (try simp only [hl201000_66] at HO_194001)
       (try simp only [hl201000_66] at HO_201001)
       (try simp only [hl201000_66] at HO_209000)
       (try simp only [hl201000_66] at HO_209001)
       have hl201001_66 := (qR HO_201001.out).1
       rw [hl201001_66] at HO_201001
       (try simp only [hl201001_66])
       (try simp only [hl201001_66] at BK178)
       (try simp only [hl201001_66] at BK193)
       (try simp only [hl201001_66] at BK200)
       (try simp only [hl201001_66] at BK208)
       (try simp only [hl201001_66] at HO_194000)
       (try simp only [hl201001_66] at HO_194001)
       (try simp only [hl201001_66] at HO_201000)
       (try simp only [hl201001_66] at HO_209000)
       (try simp only [hl201001_66] at HO_209001)
       cases kq with
       | zero => exact absurd HA.out (by simp [laws_FnExactHrdHear.j1])
       | succ kj66 =>
        have H := HA.out
        clear HA
        simp only [laws_FnExactHrdHear.j1] at H
        by_cases c97 : x73_66 = true
        ·subst c97
         have H1 : (some false) = some r := by rw [if_pos rfl] at H; exact H
         clear H
         have H := H1
         clear H1
         obtain rfl := Option.some.inj H
         go_wp2
         go_ret
         exact ⟨by first | rfl | (simp [errW_none, errW_some] <;> rfl) | (simp [*, errW_none, errW_some] <;> rfl), by repeat (first | (with_reducible first | exact HB.out | apply yA | apply yN | apply yD | refine yS ?_ GE178.out | refine yS ?_ GE193.out | refine yS ?_ GE200.out | refine yS ?_ GE208.out) | exact HB.out)⟩
        ·replace c97 := Bool.eq_false_iff.mpr c97
         subst c97
         have H1 : ((laws_markHrdBook.f kj66 t201 t204 1).bind fun bt221 => ((laws_heldHrdBook.f kj66 bt221.2.1 bt221.2.2 1).bind fun t224 => (if t224 < 0 then (some false) else (if t224 = bt221.1 then ((laws_toHrdBook.f kj66 l0_0 l0_1).bind fun bt225 => ((impl_HrdHear.f bt225.1 bt225.2 a1 a2 a3).bind fun bt231 => ((laws_eqHrdBook.f kj66 bt231.1 bt231.2.1 t186 t189).bind fun t239 => (if t239 = true then (laws_FnExactHrdHear.j2 kj66 bt221.1 (bt231.2.2 != t192) bt221.2.1 bt221.2.2) else (laws_FnExactHrdHear.j2 kj66 bt221.1 true bt221.2.1 bt221.2.2))))) else (some false))))) = some r := by rw [if_neg (show ¬ (false = true) by decide)] at H; exact H
         clear H
         have H := H1
         clear H1
         replace H := Option.bind_eq_some_iff.mp H
         obtain ⟨⟨t221, t222, t223⟩, A980, H⟩ := H
         replace H : ((laws_heldHrdBook.f kj66 t222 t223 1).bind fun t224 => (if t224 < 0 then (some false) else (if t224 = t221 then ((laws_toHrdBook.f kj66 l0_0 l0_1).bind fun bt225 => ((impl_HrdHear.f bt225.1 bt225.2 a1 a2 a3).bind fun bt231 => ((laws_eqHrdBook.f kj66 bt231.1 bt231.2.1 t186 t189).bind fun t239 => (if t239 = true then (laws_FnExactHrdHear.j2 kj66 t221 (bt231.2.2 != t192) t222 t223) else (laws_FnExactHrdHear.j2 kj66 t221 true t222 t223))))) else (some false)))) = some r := H
         have A98 := qM A980
         clear A980
         replace H := Option.bind_eq_some_iff.mp H
         obtain ⟨t224, A990, H⟩ := H
         replace H : (if t224 < 0 then (some false) else (if t224 = t221 then ((laws_toHrdBook.f kj66 l0_0 l0_1).bind fun bt225 => ((impl_HrdHear.f bt225.1 bt225.2 a1 a2 a3).bind fun bt231 => ((laws_eqHrdBook.f kj66 bt231.1 bt231.2.1 t186 t189).bind fun t239 => (if t239 = true then (laws_FnExactHrdHear.j2 kj66 t221 (bt231.2.2 != t192) t222 t223) else (laws_FnExactHrdHear.j2 kj66 t221 true t222 t223))))) else (some false))) = some r := H
         have A99 := qM A990
         clear A990
         by_cases c100 : t224 < 0
         ·rw [if_pos c100] at H
          have c100b0 : decide (t224 < 0) = true := decide_eq_true c100
          clear c100
          obtain rfl := Option.some.inj H
          have hnb101 := NB208_178.out
          have hnc101 := NB178_208.out
          have hnb102 := NB208_193.out
          have hnc102 := NB193_208.out
          have hnb103 := NB208_200.out
          have hnc103 := NB200_208.out
          have hcz104_0 : wc.cell? ⟨gb208, 0, none⟩ = some (.slice Ao38 t201.length co38) := (zC BK208.out 0).trans rfl
          have hcz104_1 : wc.cell? ⟨gb208, 1, none⟩ = some (.slice Ao43 t204.length co43) := (zC BK208.out 1).trans rfl
          have hfz104_0 := zF BK208.out 0
          have hfz104_1 := zF BK208.out 1
          go_wp2_with (first | ((with_reducible refine gate_callee (f := 23) rfl ?_); refine goesL_ (some 76) rfl rfl Try.func23 (by kernel_rfl) rfl #[.agg #[.slice Ao38 t201.length co38, .slice Ao43 t204.length co43], .int .i64 1] rfl (by (try simp only [List.map_toArray, List.map_cons, List.map_nil]); first | done | rfl | (simp only [List.length_drop, List.length_take]; rfl)) ?_; (with_reducible refine (laws_markHrdBook.calls kj66 (fun k_ => some k_ = (.slice Ao38 t201.length co38 : Value).ownBlock) (.slice Ao38 t201.length co38) t201 (fun k_ => some k_ = (.slice Ao43 t204.length co43 : Value).ownBlock) (.slice Ao43 t204.length co43) t204 1 t221 t222 t223 w _ ?side1 ?side2 ?side3 ?side4 ?side5 A98.out).mono ?_); (case side1 => repeat (first | (with_reducible first | exact HB.out | apply yA | apply yN | apply yD | refine yS ?_ GE178.out | refine yS ?_ GE193.out | refine yS ?_ GE200.out | refine yS ?_ GE208.out) | exact HB.out)); (case side2 => exact Kd.R_tight rfl HO_209000.out); (case side3 => exact fun k_ e_ => (HO_209000.out.1 k_ e_.symm).2.2.2.2); (case side4 => exact Kd.R_tight rfl HO_209001.out); (case side5 => exact fun k_ e_ => (HO_209001.out.1 k_ e_.symm).2.2.2.2); rintro e w105 ⟨rfl, hy0, hy1, hb, hkp⟩; refine ⟨_, rfl, ?_⟩; have n0_ := qM (Kd.R_mono (ok' := fun k_ => some k_ ≠ (.slice Ao27 t189.length co27 : Value).ownBlock ∧ some k_ ≠ (.slice Ao31 t218.length co31 : Value).ownBlock ∧ some k_ ≠ (.slice Ao35 t219.length co35 : Value).ownBlock ∧ some k_ ≠ (.slice Ao38 t201.length co38 : Value).ownBlock ∧ some k_ ≠ (.slice Ao43 t204.length co43 : Value).ownBlock) (Kd.R_keptB (HO_194000.out) hkp (fun k_ hk_ hs_ => Or.elim hs_ (fun e_ => (hk_.2.2.2.1) e_) (fun e_ => (hk_.2.2.2.2) e_))) (fun k_ hk_ => ⟨hk_.1.1, hk_.1.2.1, hk_.1.2.2.1, hk_.1.2.2.2.1, hk_.1.2.2.2.2⟩)); have n1_ := qM (Kd.R_mono (ok' := fun k_ => some k_ ≠ (.slice Ao24 t186.length co24 : Value).ownBlock ∧ some k_ ≠ (.slice Ao31 t218.length co31 : Value).ownBlock ∧ some k_ ≠ (.slice Ao35 t219.length co35 : Value).ownBlock ∧ some k_ ≠ (.slice Ao38 t201.length co38 : Value).ownBlock ∧ some k_ ≠ (.slice Ao43 t204.length co43 : Value).ownBlock) (Kd.R_keptB (HO_194001.out) hkp (fun k_ hk_ hs_ => Or.elim hs_ (fun e_ => (hk_.2.2.2.1) e_) (fun e_ => (hk_.2.2.2.2) e_))) (fun k_ hk_ => ⟨hk_.1.1, hk_.1.2.1, hk_.1.2.2.1, hk_.1.2.2.2.1, hk_.1.2.2.2.2⟩)); have n2_ := qM (Kd.R_mono (ok' := fun k_ => some k_ ≠ (.slice Ao24 t186.length co24 : Value).ownBlock ∧ some k_ ≠ (.slice Ao27 t189.length co27 : Value).ownBlock ∧ some k_ ≠ (.slice Ao35 t219.length co35 : Value).ownBlock ∧ some k_ ≠ (.slice Ao38 t201.length co38 : Value).ownBlock ∧ some k_ ≠ (.slice Ao43 t204.length co43 : Value).ownBlock) (Kd.R_keptB (HO_201000.out) hkp (fun k_ hk_ hs_ => Or.elim hs_ (fun e_ => (hk_.2.2.2.1) e_) (fun e_ => (hk_.2.2.2.2) e_))) (fun k_ hk_ => ⟨hk_.1.1, hk_.1.2.1, hk_.1.2.2.1, hk_.1.2.2.2.1, hk_.1.2.2.2.2⟩)); have n3_ := qM (Kd.R_mono (ok' := fun k_ => some k_ ≠ (.slice Ao24 t186.length co24 : Value).ownBlock ∧ some k_ ≠ (.slice Ao27 t189.length co27 : Value).ownBlock ∧ some k_ ≠ (.slice Ao31 t218.length co31 : Value).ownBlock ∧ some k_ ≠ (.slice Ao38 t201.length co38 : Value).ownBlock ∧ some k_ ≠ (.slice Ao43 t204.length co43 : Value).ownBlock) (Kd.R_keptB (HO_201001.out) hkp (fun k_ hk_ hs_ => Or.elim hs_ (fun e_ => (hk_.2.2.2.1) e_) (fun e_ => (hk_.2.2.2.2) e_))) (fun k_ hk_ => ⟨hk_.1.1, hk_.1.2.1, hk_.1.2.2.1, hk_.1.2.2.2.1, hk_.1.2.2.2.2⟩)); have n4_ := qM (Kd.R_reok rfl hy0 (fun k_ e_ => HO_209000.out.1 k_ e_)); have n5_ := qM (Kd.R_reok rfl hy1 (fun k_ e_ => HO_209001.out.1 k_ e_)); have n6_ := qM (blk_kept (by (with_reducible repeat (first | refine zN ?_ _ | refine zD ?_ | refine zA ?_ _)); exact BK178.out) hkp (fun hs_ => Or.elim hs_ (fun e_ => (fun e_ => (Kd.R_ne HO_209000.out BK178.out (by decide)) e_) e_) (fun e_ => (fun e_ => (Kd.R_ne HO_209001.out BK178.out (by decide)) e_) e_))); have n7_ := qM (blk_kept (by (with_reducible repeat (first | refine zN ?_ _ | refine zD ?_ | refine zA ?_ _)); exact BK193.out) hkp (fun hs_ => Or.elim hs_ (fun e_ => (fun e_ => (Kd.R_ne HO_209000.out BK193.out (by decide)) e_) e_) (fun e_ => (fun e_ => (Kd.R_ne HO_209001.out BK193.out (by decide)) e_) e_))); have n8_ := qM (blk_kept (by (with_reducible repeat (first | refine zN ?_ _ | refine zD ?_ | refine zA ?_ _)); exact BK200.out) hkp (fun hs_ => Or.elim hs_ (fun e_ => (fun e_ => (Kd.R_ne HO_209000.out BK200.out (by decide)) e_) e_) (fun e_ => (fun e_ => (Kd.R_ne HO_209001.out BK200.out (by decide)) e_) e_))); have n9_ := qM (blk_kept (by (with_reducible repeat (first | refine zN ?_ _ | refine zD ?_ | refine zA ?_ _)); exact BK208.out) hkp (fun hs_ => Or.elim hs_ (fun e_ => (fun e_ => (Kd.R_ne HO_209000.out BK208.out (by decide)) e_) e_) (fun e_ => (fun e_ => (Kd.R_ne HO_209001.out BK208.out (by decide)) e_) e_))); have n10_ := qM (hb); clear HO_194000; clear HO_194001; clear HO_201000; clear HO_201001; clear HO_209000; clear HO_209001; clear BK178; clear BK193; clear BK200; clear BK208; clear HB; have HO_194000 := n0_; have HO_194001 := n1_; have HO_201000 := n2_; have HO_201001 := n3_; have HO_209000 := n4_; have HO_209001 := n5_; have BK178 := n6_; have BK193 := n7_; have BK200 := n8_; have BK208 := n9_; have HB := n10_; clear n0_ n1_ n2_ n3_ n4_ n5_ n6_ n7_ n8_ n9_ n10_; (try clear hb); (try clear hkp); (try clear hy0); (try clear hy1); have hcz106_0 : w105.cell? ⟨gb208, 0, none⟩ = some (.slice Ao38 t201.length co38) := (zC BK208.out 0).trans rfl; have hcz106_1 : w105.cell? ⟨gb208, 1, none⟩ = some (.slice Ao43 t204.length co43) := (zC BK208.out 1).trans rfl; have hfz106_0 := zF BK208.out 0; have hfz106_1 := zF BK208.out 1) | ((with_reducible refine gate_callee (f := 24) rfl ?_); refine goesL_ (some 79) rfl rfl Try.func24 (by kernel_rfl) rfl #[.agg #[.slice Ao38 t222.length co38, .slice Ao43 t223.length co43], .int .i64 1] rfl (by (try simp only [List.map_toArray, List.map_cons, List.map_nil]); first | done | (rw [show t222.length = t201.length from (qR HO_209000.out).1.symm, show t223.length = t204.length from (qR HO_209001.out).1.symm] <;> rfl) | rfl | (simp only [List.length_drop, List.length_take]; rfl)) ?_; (with_reducible refine (laws_heldHrdBook.calls kj66 _ _ t222 _ _ t223 1 t224 _ ?side1 ?side2 ?side3 ?side4 A99.out).mono ?_); (case side1 => repeat (first | exact (qR HO_209000.out).2.2 | (with_reducible refine Kd.C_alloc ?_ _) | (with_reducible refine Kd.C_drewN ?_ _) | (with_reducible refine Kd.C_drew ?_))); (case side2 => rw [show t222.length = t201.length from (qR HO_209000.out).1.symm]; exact (qR HO_209000.out).2.1); (case side3 => repeat (first | exact (qR HO_209001.out).2.2 | (with_reducible refine Kd.C_alloc ?_ _) | (with_reducible refine Kd.C_drewN ?_ _) | (with_reducible refine Kd.C_drew ?_))); (case side4 => rw [show t223.length = t204.length from (qR HO_209001.out).1.symm]; exact (qR HO_209001.out).2.1); rintro e w107 ⟨rfl, hb⟩; refine ⟨_, rfl, ?_⟩; have n0_ := qM (Kd.R_below (by (with_reducible repeat (first | apply qA | apply qN | apply qD)); exact HO_194000.out) hb); have n1_ := qM (Kd.R_below (by (with_reducible repeat (first | apply qA | apply qN | apply qD)); exact HO_194001.out) hb); have n2_ := qM (Kd.R_below (by (with_reducible repeat (first | apply qA | apply qN | apply qD)); exact HO_201000.out) hb); have n3_ := qM (Kd.R_below (by (with_reducible repeat (first | apply qA | apply qN | apply qD)); exact HO_201001.out) hb); have n4_ := qM (Kd.R_below (by (with_reducible repeat (first | apply qA | apply qN | apply qD)); exact HO_209000.out) hb); have n5_ := qM (Kd.R_below (by (with_reducible repeat (first | apply qA | apply qN | apply qD)); exact HO_209001.out) hb); have n6_ := qM (blk_below (g := gb178) (o := .cells #[.slice A0_0 l0_0.length c0_0, .slice A0_1 l0_1.length c0_1] 48 (0, 0)) (by (with_reducible repeat (first | refine zN ?_ _ | refine zD ?_ | refine zA ?_ _)); exact BK178.out) hb); have n7_ := qM (blk_below (g := gb193) (o := .cells #[.slice Ao24 t186.length co24, .slice Ao27 t189.length co27] 37 (0, 0)) (by (with_reducible repeat (first | refine zN ?_ _ | refine zD ?_ | refine zA ?_ _)); exact BK193.out) hb); have n8_ := qM (blk_below (g := gb200) (o := .cells #[.slice Ao31 t218.length co31, .slice Ao35 t219.length co35] 37 (0, 0)) (by (with_reducible repeat (first | refine zN ?_ _ | refine zD ?_ | refine zA ?_ _)); exact BK200.out) hb); have n9_ := qM (blk_below (g := gb208) (o := .cells #[.slice Ao38 t201.length co38, .slice Ao43 t204.length co43] 37 (0, 0)) (by (with_reducible repeat (first | refine zN ?_ _ | refine zD ?_ | refine zA ?_ _)); exact BK208.out) hb); have n10_ := qM (below_step (by repeat (first | (with_reducible first | exact HB.out | apply yA | apply yN | apply yD | refine yS ?_ GE178.out | refine yS ?_ GE193.out | refine yS ?_ GE200.out | refine yS ?_ GE208.out) | exact HB.out)) hb); clear HO_194000; clear HO_194001; clear HO_201000; clear HO_201001; clear HO_209000; clear HO_209001; clear BK178; clear BK193; clear BK200; clear BK208; clear HB; have HO_194000 := n0_; have HO_194001 := n1_; have HO_201000 := n2_; have HO_201001 := n3_; have HO_209000 := n4_; have HO_209001 := n5_; have BK178 := n6_; have BK193 := n7_; have BK200 := n8_; have BK208 := n9_; have HB := n10_; clear n0_ n1_ n2_ n3_ n4_ n5_ n6_ n7_ n8_ n9_ n10_; (try clear hb); (try clear hb2); (try clear hk); (try clear hi)))
          go_ret
          exact ⟨by first | rfl | (simp [errW_none, errW_some] <;> rfl) | (simp [*, errW_none, errW_some] <;> rfl), by repeat (first | (with_reducible first | exact HB.out | apply yA | apply yN | apply yD | refine yS ?_ GE178.out | refine yS ?_ GE193.out | refine yS ?_ GE200.out | refine yS ?_ GE208.out) | exact HB.out)⟩
         ·rw [if_neg c100] at H
          have c100b0 : decide (t224 < 0) = false := decide_eq_false c100
          clear c100
          by_cases c108 : t224 = t221
          ·rw [if_pos c108] at H
           have c108b0 : (t224 == t221) = true := beq_iff_eq.mpr c108
           have c108b1 : (t224 != t221) = false := bne_eq_false_iff_eq.mpr c108
           clear c108
           replace H := Option.bind_eq_some_iff.mp H
           obtain ⟨⟨t225, t228⟩, A1090, H⟩ := H
           replace H : ((impl_HrdHear.f t225 t228 a1 a2 a3).bind fun bt231 => ((laws_eqHrdBook.f kj66 bt231.1 bt231.2.1 t186 t189).bind fun t239 => (if t239 = true then (laws_FnExactHrdHear.j2 kj66 t221 (bt231.2.2 != t192) t222 t223) else (laws_FnExactHrdHear.j2 kj66 t221 true t222 t223)))) = some r := H
           have A109 := qM A1090
           clear A1090
           replace H := Option.bind_eq_some_iff.mp H
           obtain ⟨⟨t231, t234, t237⟩, A1100, H⟩ := H
           replace H : ((laws_eqHrdBook.f kj66 t231 t234 t186 t189).bind fun t239 => (if t239 = true then (laws_FnExactHrdHear.j2 kj66 t221 (t237 != t192) t222 t223) else (laws_FnExactHrdHear.j2 kj66 t221 true t222 t223))) = some r := H
           have A110 := qM A1100
           clear A1100
           have HC111 := qM H
           clear H
           have hnb112 := NB208_178.out
           have hnc112 := NB178_208.out
           have hnb113 := NB208_193.out
           have hnc113 := NB193_208.out
           have hnb114 := NB208_200.out
           have hnc114 := NB200_208.out
           have hcz115_0 : wc.cell? ⟨gb208, 0, none⟩ = some (.slice Ao38 t201.length co38) := (zC BK208.out 0).trans rfl
           have hcz115_1 : wc.cell? ⟨gb208, 1, none⟩ = some (.slice Ao43 t204.length co43) := (zC BK208.out 1).trans rfl
           have hfz115_0 := zF BK208.out 0
           have hfz115_1 := zF BK208.out 1
           go_upto_region 25 with (first | ((with_reducible refine gate_callee (f := 23) rfl ?_); refine goesL_ (some 76) rfl rfl Try.func23 (by kernel_rfl) rfl #[.agg #[.slice Ao38 t201.length co38, .slice Ao43 t204.length co43], .int .i64 1] rfl (by (try simp only [List.map_toArray, List.map_cons, List.map_nil]); first | done | rfl | (simp only [List.length_drop, List.length_take]; rfl)) ?_; (with_reducible refine (laws_markHrdBook.calls kj66 (fun k_ => some k_ = (.slice Ao38 t201.length co38 : Value).ownBlock) (.slice Ao38 t201.length co38) t201 (fun k_ => some k_ = (.slice Ao43 t204.length co43 : Value).ownBlock) (.slice Ao43 t204.length co43) t204 1 t221 t222 t223 w _ ?side1 ?side2 ?side3 ?side4 ?side5 A98.out).mono ?_); (case side1 => repeat (first | (with_reducible first | exact HB.out | apply yA | apply yN | apply yD | refine yS ?_ GE178.out | refine yS ?_ GE193.out | refine yS ?_ GE200.out | refine yS ?_ GE208.out) | exact HB.out)); (case side2 => exact Kd.R_tight rfl HO_209000.out); (case side3 => exact fun k_ e_ => (HO_209000.out.1 k_ e_.symm).2.2.2.2); (case side4 => exact Kd.R_tight rfl HO_209001.out); (case side5 => exact fun k_ e_ => (HO_209001.out.1 k_ e_.symm).2.2.2.2); rintro e w116 ⟨rfl, hy0, hy1, hb, hkp⟩; refine ⟨_, rfl, ?_⟩; have n0_ := qM (Kd.R_mono (ok' := fun k_ => some k_ ≠ (.slice Ao27 t189.length co27 : Value).ownBlock ∧ some k_ ≠ (.slice Ao31 t218.length co31 : Value).ownBlock ∧ some k_ ≠ (.slice Ao35 t219.length co35 : Value).ownBlock ∧ some k_ ≠ (.slice Ao38 t201.length co38 : Value).ownBlock ∧ some k_ ≠ (.slice Ao43 t204.length co43 : Value).ownBlock) (Kd.R_keptB (HO_194000.out) hkp (fun k_ hk_ hs_ => Or.elim hs_ (fun e_ => (hk_.2.2.2.1) e_) (fun e_ => (hk_.2.2.2.2) e_))) (fun k_ hk_ => ⟨hk_.1.1, hk_.1.2.1, hk_.1.2.2.1, hk_.1.2.2.2.1, hk_.1.2.2.2.2⟩)); have n1_ := qM (Kd.R_mono (ok' := fun k_ => some k_ ≠ (.slice Ao24 t186.length co24 : Value).ownBlock ∧ some k_ ≠ (.slice Ao31 t218.length co31 : Value).ownBlock ∧ some k_ ≠ (.slice Ao35 t219.length co35 : Value).ownBlock ∧ some k_ ≠ (.slice Ao38 t201.length co38 : Value).ownBlock ∧ some k_ ≠ (.slice Ao43 t204.length co43 : Value).ownBlock) (Kd.R_keptB (HO_194001.out) hkp (fun k_ hk_ hs_ => Or.elim hs_ (fun e_ => (hk_.2.2.2.1) e_) (fun e_ => (hk_.2.2.2.2) e_))) (fun k_ hk_ => ⟨hk_.1.1, hk_.1.2.1, hk_.1.2.2.1, hk_.1.2.2.2.1, hk_.1.2.2.2.2⟩)); have n2_ := qM (Kd.R_mono (ok' := fun k_ => some k_ ≠ (.slice Ao24 t186.length co24 : Value).ownBlock ∧ some k_ ≠ (.slice Ao27 t189.length co27 : Value).ownBlock ∧ some k_ ≠ (.slice Ao35 t219.length co35 : Value).ownBlock ∧ some k_ ≠ (.slice Ao38 t201.length co38 : Value).ownBlock ∧ some k_ ≠ (.slice Ao43 t204.length co43 : Value).ownBlock) (Kd.R_keptB (HO_201000.out) hkp (fun k_ hk_ hs_ => Or.elim hs_ (fun e_ => (hk_.2.2.2.1) e_) (fun e_ => (hk_.2.2.2.2) e_))) (fun k_ hk_ => ⟨hk_.1.1, hk_.1.2.1, hk_.1.2.2.1, hk_.1.2.2.2.1, hk_.1.2.2.2.2⟩)); have n3_ := qM (Kd.R_mono (ok' := fun k_ => some k_ ≠ (.slice Ao24 t186.length co24 : Value).ownBlock ∧ some k_ ≠ (.slice Ao27 t189.length co27 : Value).ownBlock ∧ some k_ ≠ (.slice Ao31 t218.length co31 : Value).ownBlock ∧ some k_ ≠ (.slice Ao38 t201.length co38 : Value).ownBlock ∧ some k_ ≠ (.slice Ao43 t204.length co43 : Value).ownBlock) (Kd.R_keptB (HO_201001.out) hkp (fun k_ hk_ hs_ => Or.elim hs_ (fun e_ => (hk_.2.2.2.1) e_) (fun e_ => (hk_.2.2.2.2) e_))) (fun k_ hk_ => ⟨hk_.1.1, hk_.1.2.1, hk_.1.2.2.1, hk_.1.2.2.2.1, hk_.1.2.2.2.2⟩)); have n4_ := qM (Kd.R_reok rfl hy0 (fun k_ e_ => HO_209000.out.1 k_ e_)); have n5_ := qM (Kd.R_reok rfl hy1 (fun k_ e_ => HO_209001.out.1 k_ e_)); have n6_ := qM (blk_kept (by (with_reducible repeat (first | refine zN ?_ _ | refine zD ?_ | refine zA ?_ _)); exact BK178.out) hkp (fun hs_ => Or.elim hs_ (fun e_ => (fun e_ => (Kd.R_ne HO_209000.out BK178.out (by decide)) e_) e_) (fun e_ => (fun e_ => (Kd.R_ne HO_209001.out BK178.out (by decide)) e_) e_))); have n7_ := qM (blk_kept (by (with_reducible repeat (first | refine zN ?_ _ | refine zD ?_ | refine zA ?_ _)); exact BK193.out) hkp (fun hs_ => Or.elim hs_ (fun e_ => (fun e_ => (Kd.R_ne HO_209000.out BK193.out (by decide)) e_) e_) (fun e_ => (fun e_ => (Kd.R_ne HO_209001.out BK193.out (by decide)) e_) e_))); have n8_ := qM (blk_kept (by (with_reducible repeat (first | refine zN ?_ _ | refine zD ?_ | refine zA ?_ _)); exact BK200.out) hkp (fun hs_ => Or.elim hs_ (fun e_ => (fun e_ => (Kd.R_ne HO_209000.out BK200.out (by decide)) e_) e_) (fun e_ => (fun e_ => (Kd.R_ne HO_209001.out BK200.out (by decide)) e_) e_))); have n9_ := qM (blk_kept (by (with_reducible repeat (first | refine zN ?_ _ | refine zD ?_ | refine zA ?_ _)); exact BK208.out) hkp (fun hs_ => Or.elim hs_ (fun e_ => (fun e_ => (Kd.R_ne HO_209000.out BK208.out (by decide)) e_) e_) (fun e_ => (fun e_ => (Kd.R_ne HO_209001.out BK208.out (by decide)) e_) e_))); have n10_ := qM (hb); clear HO_194000; clear HO_194001; clear HO_201000; clear HO_201001; clear HO_209000; clear HO_209001; clear BK178; clear BK193; clear BK200; clear BK208; clear HB; have HO_194000 := n0_; have HO_194001 := n1_; have HO_201000 := n2_; have HO_201001 := n3_; have HO_209000 := n4_; have HO_209001 := n5_; have BK178 := n6_; have BK193 := n7_; have BK200 := n8_; have BK208 := n9_; have HB := n10_; clear n0_ n1_ n2_ n3_ n4_ n5_ n6_ n7_ n8_ n9_ n10_; (try clear hb); (try clear hkp); (try clear hy0); (try clear hy1); have hcz117_0 : w116.cell? ⟨gb208, 0, none⟩ = some (.slice Ao38 t201.length co38) := (zC BK208.out 0).trans rfl; have hcz117_1 : w116.cell? ⟨gb208, 1, none⟩ = some (.slice Ao43 t204.length co43) := (zC BK208.out 1).trans rfl; have hfz117_0 := zF BK208.out 0; have hfz117_1 := zF BK208.out 1) | ((with_reducible refine gate_callee (f := 24) rfl ?_); refine goesL_ (some 79) rfl rfl Try.func24 (by kernel_rfl) rfl #[.agg #[.slice Ao38 t222.length co38, .slice Ao43 t223.length co43], .int .i64 1] rfl (by (try simp only [List.map_toArray, List.map_cons, List.map_nil]); first | done | (rw [show t222.length = t201.length from (qR HO_209000.out).1.symm, show t223.length = t204.length from (qR HO_209001.out).1.symm] <;> rfl) | rfl | (simp only [List.length_drop, List.length_take]; rfl)) ?_; (with_reducible refine (laws_heldHrdBook.calls kj66 _ _ t222 _ _ t223 1 t224 _ ?side1 ?side2 ?side3 ?side4 A99.out).mono ?_); (case side1 => repeat (first | exact (qR HO_209000.out).2.2 | (with_reducible refine Kd.C_alloc ?_ _) | (with_reducible refine Kd.C_drewN ?_ _) | (with_reducible refine Kd.C_drew ?_))); (case side2 => rw [show t222.length = t201.length from (qR HO_209000.out).1.symm]; exact (qR HO_209000.out).2.1); (case side3 => repeat (first | exact (qR HO_209001.out).2.2 | (with_reducible refine Kd.C_alloc ?_ _) | (with_reducible refine Kd.C_drewN ?_ _) | (with_reducible refine Kd.C_drew ?_))); (case side4 => rw [show t223.length = t204.length from (qR HO_209001.out).1.symm]; exact (qR HO_209001.out).2.1); rintro e w118 ⟨rfl, hb⟩; refine ⟨_, rfl, ?_⟩; have n0_ := qM (Kd.R_below (by (with_reducible repeat (first | apply qA | apply qN | apply qD)); exact HO_194000.out) hb); have n1_ := qM (Kd.R_below (by (with_reducible repeat (first | apply qA | apply qN | apply qD)); exact HO_194001.out) hb); have n2_ := qM (Kd.R_below (by (with_reducible repeat (first | apply qA | apply qN | apply qD)); exact HO_201000.out) hb); have n3_ := qM (Kd.R_below (by (with_reducible repeat (first | apply qA | apply qN | apply qD)); exact HO_201001.out) hb); have n4_ := qM (Kd.R_below (by (with_reducible repeat (first | apply qA | apply qN | apply qD)); exact HO_209000.out) hb); have n5_ := qM (Kd.R_below (by (with_reducible repeat (first | apply qA | apply qN | apply qD)); exact HO_209001.out) hb); have n6_ := qM (blk_below (g := gb178) (o := .cells #[.slice A0_0 l0_0.length c0_0, .slice A0_1 l0_1.length c0_1] 48 (0, 0)) (by (with_reducible repeat (first | refine zN ?_ _ | refine zD ?_ | refine zA ?_ _)); exact BK178.out) hb); have n7_ := qM (blk_below (g := gb193) (o := .cells #[.slice Ao24 t186.length co24, .slice Ao27 t189.length co27] 37 (0, 0)) (by (with_reducible repeat (first | refine zN ?_ _ | refine zD ?_ | refine zA ?_ _)); exact BK193.out) hb); have n8_ := qM (blk_below (g := gb200) (o := .cells #[.slice Ao31 t218.length co31, .slice Ao35 t219.length co35] 37 (0, 0)) (by (with_reducible repeat (first | refine zN ?_ _ | refine zD ?_ | refine zA ?_ _)); exact BK200.out) hb); have n9_ := qM (blk_below (g := gb208) (o := .cells #[.slice Ao38 t201.length co38, .slice Ao43 t204.length co43] 37 (0, 0)) (by (with_reducible repeat (first | refine zN ?_ _ | refine zD ?_ | refine zA ?_ _)); exact BK208.out) hb); have n10_ := qM (below_step (by repeat (first | (with_reducible first | exact HB.out | apply yA | apply yN | apply yD | refine yS ?_ GE178.out | refine yS ?_ GE193.out | refine yS ?_ GE200.out | refine yS ?_ GE208.out) | exact HB.out)) hb); clear HO_194000; clear HO_194001; clear HO_201000; clear HO_201001; clear HO_209000; clear HO_209001; clear BK178; clear BK193; clear BK200; clear BK208; clear HB; have HO_194000 := n0_; have HO_194001 := n1_; have HO_201000 := n2_; have HO_201001 := n3_; have HO_209000 := n4_; have HO_209001 := n5_; have BK178 := n6_; have BK193 := n7_; have BK200 := n8_; have BK208 := n9_; have HB := n10_; clear n0_ n1_ n2_ n3_ n4_ n5_ n6_ n7_ n8_ n9_ n10_; (try clear hb); (try clear hb2); (try clear hk); (try clear hi); have hnb119 := NB178_193.out; have hnc119 := NB193_178.out; have hnb120 := NB178_200.out; have hnc120 := NB200_178.out; have hcz121_0 : w118.cell? ⟨gb178, 0, none⟩ = some (.slice A0_0 l0_0.length c0_0) := (zC BK178.out 0).trans rfl; have hcz121_1 : w118.cell? ⟨gb178, 1, none⟩ = some (.slice A0_1 l0_1.length c0_1) := (zC BK178.out 1).trans rfl; have hfz121_0 := zF BK178.out 0; have hfz121_1 := zF BK178.out 1) | ((with_reducible refine gate_callee (f := 31) rfl ?_); refine goesL_ (some 87) rfl rfl Try.func31 (by kernel_rfl) rfl #[.agg #[.slice A0_0 l0_0.length c0_0, .slice A0_1 l0_1.length c0_1]] rfl (by (try simp only [List.map_toArray, List.map_cons, List.map_nil]); first | done | rfl | (simp only [List.length_drop, List.length_take]; rfl)) ?_; (with_reducible refine (laws_toHrdBook.calls kj66 _ _ l0_0 _ _ l0_1 t225 t228 _ ?side1 ?side2 ?side3 ?side4 A109.out).mono ?_); (case side1 => repeat (first | exact (Kd.C_below HR0_0.out HB.out) | (with_reducible refine Kd.C_alloc ?_ _) | (with_reducible refine Kd.C_drewN ?_ _) | (with_reducible refine Kd.C_drew ?_))); (case side2 => exact HC0_0.out); (case side3 => repeat (first | exact (Kd.C_below HR0_1.out HB.out) | (with_reducible refine Kd.C_alloc ?_ _) | (with_reducible refine Kd.C_drewN ?_ _) | (with_reducible refine Kd.C_drew ?_))); (case side4 => exact HC0_1.out); rintro e w122 ⟨v226, v229, rfl, ho0, ho1, hb⟩; refine ⟨_, rfl, ?_⟩; have n0_ := qM (Kd.R_mono (Kd.R_told (Kd.R_told (Kd.R_old (by (with_reducible repeat (first | apply qA | apply qN | apply qD)); exact HO_194000.out) hb) (Kd.R_base ho0)) (Kd.R_base ho1)) (fun _ h_ => h_.1)); have n1_ := qM (Kd.R_mono (Kd.R_told (Kd.R_told (Kd.R_old (by (with_reducible repeat (first | apply qA | apply qN | apply qD)); exact HO_194001.out) hb) (Kd.R_base ho0)) (Kd.R_base ho1)) (fun _ h_ => h_.1)); have n2_ := qM (Kd.R_mono (Kd.R_told (Kd.R_told (Kd.R_old (by (with_reducible repeat (first | apply qA | apply qN | apply qD)); exact HO_201000.out) hb) (Kd.R_base ho0)) (Kd.R_base ho1)) (fun _ h_ => h_.1)); have n3_ := qM (Kd.R_mono (Kd.R_told (Kd.R_told (Kd.R_old (by (with_reducible repeat (first | apply qA | apply qN | apply qD)); exact HO_201001.out) hb) (Kd.R_base ho0)) (Kd.R_base ho1)) (fun _ h_ => h_.1)); have n4_ := qM (Kd.R_mono (Kd.R_told (Kd.R_told (Kd.R_old (by (with_reducible repeat (first | apply qA | apply qN | apply qD)); exact HO_209000.out) hb) (Kd.R_base ho0)) (Kd.R_base ho1)) (fun _ h_ => h_.1)); have n5_ := qM (Kd.R_mono (Kd.R_told (Kd.R_told (Kd.R_old (by (with_reducible repeat (first | apply qA | apply qN | apply qD)); exact HO_209001.out) hb) (Kd.R_base ho0)) (Kd.R_base ho1)) (fun _ h_ => h_.1)); have n6_ := qM (Kd.R_lower (Kd.R_new' (Kd.R_new' (Kd.R_new' (Kd.R_new' (Kd.R_new' (Kd.R_new' ho0 (Kd.R_lt (by (with_reducible repeat (first | apply qA | apply qN | apply qD)); exact HO_194000.out))) (Kd.R_lt (by (with_reducible repeat (first | apply qA | apply qN | apply qD)); exact HO_194001.out))) (Kd.R_lt (by (with_reducible repeat (first | apply qA | apply qN | apply qD)); exact HO_201000.out))) (Kd.R_lt (by (with_reducible repeat (first | apply qA | apply qN | apply qD)); exact HO_201001.out))) (Kd.R_lt (by (with_reducible repeat (first | apply qA | apply qN | apply qD)); exact HO_209000.out))) (Kd.R_lt (by (with_reducible repeat (first | apply qA | apply qN | apply qD)); exact HO_209001.out))) (below_size (by repeat (first | (with_reducible first | exact HB.out | apply yA | apply yN | apply yD | refine yS ?_ GE178.out | refine yS ?_ GE193.out | refine yS ?_ GE200.out | refine yS ?_ GE208.out) | exact HB.out)))); have n7_ := qM (Kd.R_lower (Kd.R_new' (Kd.R_new' (Kd.R_new' (Kd.R_new' (Kd.R_new' (Kd.R_new' ho1 (Kd.R_lt (by (with_reducible repeat (first | apply qA | apply qN | apply qD)); exact HO_194000.out))) (Kd.R_lt (by (with_reducible repeat (first | apply qA | apply qN | apply qD)); exact HO_194001.out))) (Kd.R_lt (by (with_reducible repeat (first | apply qA | apply qN | apply qD)); exact HO_201000.out))) (Kd.R_lt (by (with_reducible repeat (first | apply qA | apply qN | apply qD)); exact HO_201001.out))) (Kd.R_lt (by (with_reducible repeat (first | apply qA | apply qN | apply qD)); exact HO_209000.out))) (Kd.R_lt (by (with_reducible repeat (first | apply qA | apply qN | apply qD)); exact HO_209001.out))) (below_size (by repeat (first | (with_reducible first | exact HB.out | apply yA | apply yN | apply yD | refine yS ?_ GE178.out | refine yS ?_ GE193.out | refine yS ?_ GE200.out | refine yS ?_ GE208.out) | exact HB.out)))); have n8_ := qM (blk_below (g := gb178) (o := .cells #[.slice A0_0 l0_0.length c0_0, .slice A0_1 l0_1.length c0_1] 48 (0, 0)) (by (with_reducible repeat (first | refine zN ?_ _ | refine zD ?_ | refine zA ?_ _)); exact BK178.out) hb); have n9_ := qM (blk_below (g := gb193) (o := .cells #[.slice Ao24 t186.length co24, .slice Ao27 t189.length co27] 37 (0, 0)) (by (with_reducible repeat (first | refine zN ?_ _ | refine zD ?_ | refine zA ?_ _)); exact BK193.out) hb); have n10_ := qM (blk_below (g := gb200) (o := .cells #[.slice Ao31 t218.length co31, .slice Ao35 t219.length co35] 37 (0, 0)) (by (with_reducible repeat (first | refine zN ?_ _ | refine zD ?_ | refine zA ?_ _)); exact BK200.out) hb); have n11_ := qM (blk_below (g := gb208) (o := .cells #[.slice Ao38 t201.length co38, .slice Ao43 t204.length co43] 37 (0, 0)) (by (with_reducible repeat (first | refine zN ?_ _ | refine zD ?_ | refine zA ?_ _)); exact BK208.out) hb); have n12_ := qM (below_step (by repeat (first | (with_reducible first | exact HB.out | apply yA | apply yN | apply yD | refine yS ?_ GE178.out | refine yS ?_ GE193.out | refine yS ?_ GE200.out | refine yS ?_ GE208.out) | exact HB.out)) hb); clear HO_194000; clear HO_194001; clear HO_201000; clear HO_201001; clear HO_209000; clear HO_209001; clear BK178; clear BK193; clear BK200; clear BK208; clear HB; have HO_194000 := n0_; have HO_194001 := n1_; have HO_201000 := n2_; have HO_201001 := n3_; have HO_209000 := n4_; have HO_209001 := n5_; have HO227 := n6_; have HO230 := n7_; have BK178 := n8_; have BK193 := n9_; have BK200 := n10_; have BK208 := n11_; have HB := n12_; clear n0_ n1_ n2_ n3_ n4_ n5_ n6_ n7_ n8_ n9_ n10_ n11_ n12_; (try clear hb); (try clear hb2); (try clear hk); (try clear hi); (try clear ho0); (try clear ho1); obtain ⟨Ao123, co123, eo123⟩ := Kd.R_slice HO227.out; subst eo123; obtain ⟨Ao124, co124, eo124⟩ := Kd.R_slice HO230.out; subst eo124) | ((with_reducible refine gate_callee (f := 26) rfl ?_); refine goesL_ (some 91) rfl rfl Try.func26 (by kernel_rfl) rfl #[.agg #[.slice Ao123 t225.length co123, .slice Ao124 t228.length co124], .int .i64 a1, .int .i64 a2, .int .i64 a3] rfl (by (try simp only [List.map_toArray, List.map_cons, List.map_nil]); first | done | rfl | (simp only [List.length_drop, List.length_take]; rfl)) ?_; (with_reducible refine (impl_HrdHear.calls _ _ t225 _ _ t228 a1 a2 a3 t231 t234 t237 _ ?side1 ?side2 ?side3 ?side4 A110.out).mono ?_); (case side1 => repeat (first | exact (qR HO227.out).2.2 | (with_reducible refine Kd.C_alloc ?_ _) | (with_reducible refine Kd.C_drewN ?_ _) | (with_reducible refine Kd.C_drew ?_))); (case side2 => exact (qR HO227.out).2.1); (case side3 => repeat (first | exact (qR HO230.out).2.2 | (with_reducible refine Kd.C_alloc ?_ _) | (with_reducible refine Kd.C_drewN ?_ _) | (with_reducible refine Kd.C_drew ?_))); (case side4 => exact (qR HO230.out).2.1); rintro e w125 ⟨v232, v235, rfl, ho0, ho1, hb⟩; refine ⟨_, rfl, ?_⟩; have n0_ := qM (Kd.R_mono (Kd.R_told (Kd.R_told (Kd.R_old (by (with_reducible repeat (first | apply qA | apply qN | apply qD)); exact HO_194000.out) hb) (Kd.R_base ho0)) (Kd.R_base ho1)) (fun _ h_ => h_.1)); have n1_ := qM (Kd.R_mono (Kd.R_told (Kd.R_told (Kd.R_old (by (with_reducible repeat (first | apply qA | apply qN | apply qD)); exact HO_194001.out) hb) (Kd.R_base ho0)) (Kd.R_base ho1)) (fun _ h_ => h_.1)); have n2_ := qM (Kd.R_mono (Kd.R_told (Kd.R_told (Kd.R_old (by (with_reducible repeat (first | apply qA | apply qN | apply qD)); exact HO_201000.out) hb) (Kd.R_base ho0)) (Kd.R_base ho1)) (fun _ h_ => h_.1)); have n3_ := qM (Kd.R_mono (Kd.R_told (Kd.R_told (Kd.R_old (by (with_reducible repeat (first | apply qA | apply qN | apply qD)); exact HO_201001.out) hb) (Kd.R_base ho0)) (Kd.R_base ho1)) (fun _ h_ => h_.1)); have n4_ := qM (Kd.R_mono (Kd.R_told (Kd.R_told (Kd.R_old (by (with_reducible repeat (first | apply qA | apply qN | apply qD)); exact HO_209000.out) hb) (Kd.R_base ho0)) (Kd.R_base ho1)) (fun _ h_ => h_.1)); have n5_ := qM (Kd.R_mono (Kd.R_told (Kd.R_told (Kd.R_old (by (with_reducible repeat (first | apply qA | apply qN | apply qD)); exact HO_209001.out) hb) (Kd.R_base ho0)) (Kd.R_base ho1)) (fun _ h_ => h_.1)); have n6_ := qM (Kd.R_mono (Kd.R_told (Kd.R_told (Kd.R_old (by (with_reducible repeat (first | apply qA | apply qN | apply qD)); exact HO227.out) hb) (Kd.R_base ho0)) (Kd.R_base ho1)) (fun _ h_ => h_.1)); have n7_ := qM (Kd.R_mono (Kd.R_told (Kd.R_told (Kd.R_old (by (with_reducible repeat (first | apply qA | apply qN | apply qD)); exact HO230.out) hb) (Kd.R_base ho0)) (Kd.R_base ho1)) (fun _ h_ => h_.1)); have n8_ := qM (Kd.R_lower (Kd.R_new' (Kd.R_new' (Kd.R_new' (Kd.R_new' (Kd.R_new' (Kd.R_new' (Kd.R_new' (Kd.R_new' ho0 (Kd.R_lt (by (with_reducible repeat (first | apply qA | apply qN | apply qD)); exact HO_194000.out))) (Kd.R_lt (by (with_reducible repeat (first | apply qA | apply qN | apply qD)); exact HO_194001.out))) (Kd.R_lt (by (with_reducible repeat (first | apply qA | apply qN | apply qD)); exact HO_201000.out))) (Kd.R_lt (by (with_reducible repeat (first | apply qA | apply qN | apply qD)); exact HO_201001.out))) (Kd.R_lt (by (with_reducible repeat (first | apply qA | apply qN | apply qD)); exact HO_209000.out))) (Kd.R_lt (by (with_reducible repeat (first | apply qA | apply qN | apply qD)); exact HO_209001.out))) (Kd.R_lt (by (with_reducible repeat (first | apply qA | apply qN | apply qD)); exact HO227.out))) (Kd.R_lt (by (with_reducible repeat (first | apply qA | apply qN | apply qD)); exact HO230.out))) (below_size (by repeat (first | (with_reducible first | exact HB.out | apply yA | apply yN | apply yD | refine yS ?_ GE178.out | refine yS ?_ GE193.out | refine yS ?_ GE200.out | refine yS ?_ GE208.out) | exact HB.out)))); have n9_ := qM (Kd.R_lower (Kd.R_new' (Kd.R_new' (Kd.R_new' (Kd.R_new' (Kd.R_new' (Kd.R_new' (Kd.R_new' (Kd.R_new' ho1 (Kd.R_lt (by (with_reducible repeat (first | apply qA | apply qN | apply qD)); exact HO_194000.out))) (Kd.R_lt (by (with_reducible repeat (first | apply qA | apply qN | apply qD)); exact HO_194001.out))) (Kd.R_lt (by (with_reducible repeat (first | apply qA | apply qN | apply qD)); exact HO_201000.out))) (Kd.R_lt (by (with_reducible repeat (first | apply qA | apply qN | apply qD)); exact HO_201001.out))) (Kd.R_lt (by (with_reducible repeat (first | apply qA | apply qN | apply qD)); exact HO_209000.out))) (Kd.R_lt (by (with_reducible repeat (first | apply qA | apply qN | apply qD)); exact HO_209001.out))) (Kd.R_lt (by (with_reducible repeat (first | apply qA | apply qN | apply qD)); exact HO227.out))) (Kd.R_lt (by (with_reducible repeat (first | apply qA | apply qN | apply qD)); exact HO230.out))) (below_size (by repeat (first | (with_reducible first | exact HB.out | apply yA | apply yN | apply yD | refine yS ?_ GE178.out | refine yS ?_ GE193.out | refine yS ?_ GE200.out | refine yS ?_ GE208.out) | exact HB.out)))); have n10_ := qM (blk_below (g := gb178) (o := .cells #[.slice A0_0 l0_0.length c0_0, .slice A0_1 l0_1.length c0_1] 48 (0, 0)) (by (with_reducible repeat (first | refine zN ?_ _ | refine zD ?_ | refine zA ?_ _)); exact BK178.out) hb); have n11_ := qM (blk_below (g := gb193) (o := .cells #[.slice Ao24 t186.length co24, .slice Ao27 t189.length co27] 37 (0, 0)) (by (with_reducible repeat (first | refine zN ?_ _ | refine zD ?_ | refine zA ?_ _)); exact BK193.out) hb); have n12_ := qM (blk_below (g := gb200) (o := .cells #[.slice Ao31 t218.length co31, .slice Ao35 t219.length co35] 37 (0, 0)) (by (with_reducible repeat (first | refine zN ?_ _ | refine zD ?_ | refine zA ?_ _)); exact BK200.out) hb); have n13_ := qM (blk_below (g := gb208) (o := .cells #[.slice Ao38 t201.length co38, .slice Ao43 t204.length co43] 37 (0, 0)) (by (with_reducible repeat (first | refine zN ?_ _ | refine zD ?_ | refine zA ?_ _)); exact BK208.out) hb); have n14_ := qM (below_step (by repeat (first | (with_reducible first | exact HB.out | apply yA | apply yN | apply yD | refine yS ?_ GE178.out | refine yS ?_ GE193.out | refine yS ?_ GE200.out | refine yS ?_ GE208.out) | exact HB.out)) hb); clear HO_194000; clear HO_194001; clear HO_201000; clear HO_201001; clear HO_209000; clear HO_209001; clear HO227; clear HO230; clear BK178; clear BK193; clear BK200; clear BK208; clear HB; have HO_194000 := n0_; have HO_194001 := n1_; have HO_201000 := n2_; have HO_201001 := n3_; have HO_209000 := n4_; have HO_209001 := n5_; have HO227 := n6_; have HO230 := n7_; have HO233 := n8_; have HO236 := n9_; have BK178 := n10_; have BK193 := n11_; have BK200 := n12_; have BK208 := n13_; have HB := n14_; clear n0_ n1_ n2_ n3_ n4_ n5_ n6_ n7_ n8_ n9_ n10_ n11_ n12_ n13_ n14_; (try clear hb); (try clear hb2); (try clear hk); (try clear hi); (try clear ho0); (try clear ho1)) | ((with_reducible refine gate_dst (N := 18) rfl ?_); refine box_event ?hg (N := 18) ?hd (cs := #[.slice none 0 0, .slice none 0 0]) (t := 37) ?hr ?_; (case hd => rfl); (case hg => rfl); (case hr => first | (go_simp; done) | (go_simp; rfl)); intro gb238 hg w126 hbox hb; have n0_ := qM (Kd.R_below (by (with_reducible repeat (first | apply qA | apply qN | apply qD)); exact HO_194000.out) hb); have n1_ := qM (Kd.R_below (by (with_reducible repeat (first | apply qA | apply qN | apply qD)); exact HO_194001.out) hb); have n2_ := qM (Kd.R_below (by (with_reducible repeat (first | apply qA | apply qN | apply qD)); exact HO_201000.out) hb); have n3_ := qM (Kd.R_below (by (with_reducible repeat (first | apply qA | apply qN | apply qD)); exact HO_201001.out) hb); have n4_ := qM (Kd.R_below (by (with_reducible repeat (first | apply qA | apply qN | apply qD)); exact HO_209000.out) hb); have n5_ := qM (Kd.R_below (by (with_reducible repeat (first | apply qA | apply qN | apply qD)); exact HO_209001.out) hb); have n6_ := qM (Kd.R_below (by (with_reducible repeat (first | apply qA | apply qN | apply qD)); exact HO227.out) hb); have n7_ := qM (Kd.R_below (by (with_reducible repeat (first | apply qA | apply qN | apply qD)); exact HO230.out) hb); have n8_ := qM (Kd.R_below (by (with_reducible repeat (first | apply qA | apply qN | apply qD)); exact HO233.out) hb); have n9_ := qM (Kd.R_below (by (with_reducible repeat (first | apply qA | apply qN | apply qD)); exact HO236.out) hb); have n10_ := qM (blk_below (g := gb178) (o := .cells #[.slice A0_0 l0_0.length c0_0, .slice A0_1 l0_1.length c0_1] 48 (0, 0)) (by (with_reducible repeat (first | refine zN ?_ _ | refine zD ?_ | refine zA ?_ _)); exact BK178.out) hb); have n11_ := qM (blk_below (g := gb193) (o := .cells #[.slice Ao24 t186.length co24, .slice Ao27 t189.length co27] 37 (0, 0)) (by (with_reducible repeat (first | refine zN ?_ _ | refine zD ?_ | refine zA ?_ _)); exact BK193.out) hb); have n12_ := qM (blk_below (g := gb200) (o := .cells #[.slice Ao31 t218.length co31, .slice Ao35 t219.length co35] 37 (0, 0)) (by (with_reducible repeat (first | refine zN ?_ _ | refine zD ?_ | refine zA ?_ _)); exact BK200.out) hb); have n13_ := qM (blk_below (g := gb208) (o := .cells #[.slice Ao38 t201.length co38, .slice Ao43 t204.length co43] 37 (0, 0)) (by (with_reducible repeat (first | refine zN ?_ _ | refine zD ?_ | refine zA ?_ _)); exact BK208.out) hb); have n14_ := qM (below_step (by repeat (first | (with_reducible first | exact HB.out | apply yA | apply yN | apply yD | refine yS ?_ GE178.out | refine yS ?_ GE193.out | refine yS ?_ GE200.out | refine yS ?_ GE208.out) | exact HB.out)) hb); have n15_ := qM (hbox); have n16_ := qM ((by rw [hg]; exact (below_size (by repeat (first | (with_reducible first | exact HB.out | apply yA | apply yN | apply yD | refine yS ?_ GE178.out | refine yS ?_ GE193.out | refine yS ?_ GE200.out | refine yS ?_ GE208.out) | exact HB.out))) : w.heap.size ≤ gb238)); have n17_ := qM ((by rw [hg]; exact (below_size (by repeat (first | (with_reducible first | exact HB.out | apply yA | apply yN | apply yD | refine yS ?_ GE178.out | refine yS ?_ GE193.out | refine yS ?_ GE200.out | refine yS ?_ GE208.out) | exact HB.out))) : w.heap.size ≤ gb238)); have n18_ := qM ((by rw [hg]; exact Nat.ne_of_lt (blk_lt (g := gb178) (o := .cells #[.slice A0_0 l0_0.length c0_0, .slice A0_1 l0_1.length c0_1] 48 (0, 0)) (by (with_reducible repeat (first | refine zN ?_ _ | refine zD ?_ | refine zA ?_ _)); exact BK178.out)) : gb178 ≠ gb238)); have n19_ := qM ((by rw [hg]; exact Nat.ne_of_gt (blk_lt (g := gb178) (o := .cells #[.slice A0_0 l0_0.length c0_0, .slice A0_1 l0_1.length c0_1] 48 (0, 0)) (by (with_reducible repeat (first | refine zN ?_ _ | refine zD ?_ | refine zA ?_ _)); exact BK178.out)) : gb238 ≠ gb178)); have n20_ := qM ((by rw [hg]; exact Nat.ne_of_lt (blk_lt (g := gb193) (o := .cells #[.slice Ao24 t186.length co24, .slice Ao27 t189.length co27] 37 (0, 0)) (by (with_reducible repeat (first | refine zN ?_ _ | refine zD ?_ | refine zA ?_ _)); exact BK193.out)) : gb193 ≠ gb238)); have n21_ := qM ((by rw [hg]; exact Nat.ne_of_gt (blk_lt (g := gb193) (o := .cells #[.slice Ao24 t186.length co24, .slice Ao27 t189.length co27] 37 (0, 0)) (by (with_reducible repeat (first | refine zN ?_ _ | refine zD ?_ | refine zA ?_ _)); exact BK193.out)) : gb238 ≠ gb193)); have n22_ := qM ((by rw [hg]; exact Nat.ne_of_lt (blk_lt (g := gb200) (o := .cells #[.slice Ao31 t218.length co31, .slice Ao35 t219.length co35] 37 (0, 0)) (by (with_reducible repeat (first | refine zN ?_ _ | refine zD ?_ | refine zA ?_ _)); exact BK200.out)) : gb200 ≠ gb238)); have n23_ := qM ((by rw [hg]; exact Nat.ne_of_gt (blk_lt (g := gb200) (o := .cells #[.slice Ao31 t218.length co31, .slice Ao35 t219.length co35] 37 (0, 0)) (by (with_reducible repeat (first | refine zN ?_ _ | refine zD ?_ | refine zA ?_ _)); exact BK200.out)) : gb238 ≠ gb200)); have n24_ := qM ((by rw [hg]; exact Nat.ne_of_lt (blk_lt (g := gb208) (o := .cells #[.slice Ao38 t201.length co38, .slice Ao43 t204.length co43] 37 (0, 0)) (by (with_reducible repeat (first | refine zN ?_ _ | refine zD ?_ | refine zA ?_ _)); exact BK208.out)) : gb208 ≠ gb238)); have n25_ := qM ((by rw [hg]; exact Nat.ne_of_gt (blk_lt (g := gb208) (o := .cells #[.slice Ao38 t201.length co38, .slice Ao43 t204.length co43] 37 (0, 0)) (by (with_reducible repeat (first | refine zN ?_ _ | refine zD ?_ | refine zA ?_ _)); exact BK208.out)) : gb238 ≠ gb208)); clear HO_194000; clear HO_194001; clear HO_201000; clear HO_201001; clear HO_209000; clear HO_209001; clear HO227; clear HO230; clear HO233; clear HO236; clear BK178; clear BK193; clear BK200; clear BK208; clear HB; have HO_194000 := n0_; have HO_194001 := n1_; have HO_201000 := n2_; have HO_201001 := n3_; have HO_209000 := n4_; have HO_209001 := n5_; have HO227 := n6_; have HO230 := n7_; have HO233 := n8_; have HO236 := n9_; have BK178 := n10_; have BK193 := n11_; have BK200 := n12_; have BK208 := n13_; have HB := n14_; have BK238 := n15_; have GW238 := n16_; have GE238 := n17_; have NB178_238 := n18_; have NB238_178 := n19_; have NB193_238 := n20_; have NB238_193 := n21_; have NB200_238 := n22_; have NB238_200 := n23_; have NB208_238 := n24_; have NB238_208 := n25_; clear n0_ n1_ n2_ n3_ n4_ n5_ n6_ n7_ n8_ n9_ n10_ n11_ n12_ n13_ n14_ n15_ n16_ n17_ n18_ n19_ n20_ n21_ n22_ n23_ n24_ n25_; clear hb hbox hg; obtain ⟨Ao127, co127, eo127⟩ := Kd.R_slice HO233.out; subst eo127; have hnb128 := NB238_178.out; have hnc128 := NB178_238.out; have hnb129 := NB238_193.out; have hnc129 := NB193_238.out; have hnb130 := NB238_200.out; have hnc130 := NB200_238.out; have hnb131 := NB238_208.out; have hnc131 := NB208_238.out; have hcz132_0 : w126.cell? ⟨gb238, 0, none⟩ = some (.slice none 0 0) := (zC BK238.out 0).trans rfl; have hcz132_1 : w126.cell? ⟨gb238, 1, none⟩ = some (.slice none 0 0) := (zC BK238.out 1).trans rfl; have hfz132_0 := zF BK238.out 0; have hfz132_1 := zF BK238.out 1; obtain ⟨Ao133, co133, eo133⟩ := Kd.R_slice HO236.out; subst eo133))
           (try simp only [Act.put, List.setIfInBounds_toArray, List.set_cons_zero, List.set_cons_succ])
           go_cut [102] (fun v102 wc => ∃ (kq : Nat) (x102_110 : Bool), v102 = .bool x102_110 ∧ Aside0 (laws_FnExactHrdHear.j2 kq t221 x102_110 t222 t223 = some r) ∧ Aside0 (kq ≤ kj66) ∧ Aside0 (Kd.R (Kd.int .i64) 3 wc w.heap.size (fun k_ => some k_ ≠ ((.slice Ao27 t189.length co27) : Value).ownBlock ∧ some k_ ≠ ((.slice Ao31 t218.length co31) : Value).ownBlock ∧ some k_ ≠ ((.slice Ao35 t219.length co35) : Value).ownBlock ∧ some k_ ≠ ((.slice Ao38 t201.length co38) : Value).ownBlock ∧ some k_ ≠ ((.slice Ao43 t204.length co43) : Value).ownBlock ∧ some k_ ≠ ((.slice Ao127 t231.length co127) : Value).ownBlock ∧ some k_ ≠ ((.slice Ao133 t234.length co133) : Value).ownBlock) (.slice Ao24 t186.length co24) t186) ∧ Aside0 (Kd.R (Kd.int .i64) 3 wc w.heap.size (fun k_ => some k_ ≠ ((.slice Ao24 t186.length co24) : Value).ownBlock ∧ some k_ ≠ ((.slice Ao31 t218.length co31) : Value).ownBlock ∧ some k_ ≠ ((.slice Ao35 t219.length co35) : Value).ownBlock ∧ some k_ ≠ ((.slice Ao38 t201.length co38) : Value).ownBlock ∧ some k_ ≠ ((.slice Ao43 t204.length co43) : Value).ownBlock ∧ some k_ ≠ ((.slice Ao127 t231.length co127) : Value).ownBlock ∧ some k_ ≠ ((.slice Ao133 t234.length co133) : Value).ownBlock) (.slice Ao27 t189.length co27) t189) ∧ Aside0 (Kd.R (Kd.int .i64) 3 wc w.heap.size (fun k_ => some k_ ≠ ((.slice Ao24 t186.length co24) : Value).ownBlock ∧ some k_ ≠ ((.slice Ao27 t189.length co27) : Value).ownBlock ∧ some k_ ≠ ((.slice Ao35 t219.length co35) : Value).ownBlock ∧ some k_ ≠ ((.slice Ao38 t201.length co38) : Value).ownBlock ∧ some k_ ≠ ((.slice Ao43 t204.length co43) : Value).ownBlock ∧ some k_ ≠ ((.slice Ao127 t231.length co127) : Value).ownBlock ∧ some k_ ≠ ((.slice Ao133 t234.length co133) : Value).ownBlock) (.slice Ao31 t218.length co31) t218) ∧ Aside0 (Kd.R (Kd.int .i64) 3 wc w.heap.size (fun k_ => some k_ ≠ ((.slice Ao24 t186.length co24) : Value).ownBlock ∧ some k_ ≠ ((.slice Ao27 t189.length co27) : Value).ownBlock ∧ some k_ ≠ ((.slice Ao31 t218.length co31) : Value).ownBlock ∧ some k_ ≠ ((.slice Ao38 t201.length co38) : Value).ownBlock ∧ some k_ ≠ ((.slice Ao43 t204.length co43) : Value).ownBlock ∧ some k_ ≠ ((.slice Ao127 t231.length co127) : Value).ownBlock ∧ some k_ ≠ ((.slice Ao133 t234.length co133) : Value).ownBlock) (.slice Ao35 t219.length co35) t219) ∧ Aside0 (Kd.R (Kd.int .i64) 3 wc w.heap.size (fun k_ => some k_ ≠ ((.slice Ao24 t186.length co24) : Value).ownBlock ∧ some k_ ≠ ((.slice Ao27 t189.length co27) : Value).ownBlock ∧ some k_ ≠ ((.slice Ao31 t218.length co31) : Value).ownBlock ∧ some k_ ≠ ((.slice Ao35 t219.length co35) : Value).ownBlock ∧ some k_ ≠ ((.slice Ao43 t204.length co43) : Value).ownBlock ∧ some k_ ≠ ((.slice Ao127 t231.length co127) : Value).ownBlock ∧ some k_ ≠ ((.slice Ao133 t234.length co133) : Value).ownBlock) (.slice Ao38 t201.length co38) t222) ∧ Aside0 (Kd.R (Kd.int .i64) 3 wc w.heap.size (fun k_ => some k_ ≠ ((.slice Ao24 t186.length co24) : Value).ownBlock ∧ some k_ ≠ ((.slice Ao27 t189.length co27) : Value).ownBlock ∧ some k_ ≠ ((.slice Ao31 t218.length co31) : Value).ownBlock ∧ some k_ ≠ ((.slice Ao35 t219.length co35) : Value).ownBlock ∧ some k_ ≠ ((.slice Ao38 t201.length co38) : Value).ownBlock ∧ some k_ ≠ ((.slice Ao127 t231.length co127) : Value).ownBlock ∧ some k_ ≠ ((.slice Ao133 t234.length co133) : Value).ownBlock) (.slice Ao43 t204.length co43) t223) ∧ Aside0 (Kd.R (Kd.int .i64) 3 wc w.heap.size (fun k_ => some k_ ≠ ((.slice Ao24 t186.length co24) : Value).ownBlock ∧ some k_ ≠ ((.slice Ao27 t189.length co27) : Value).ownBlock ∧ some k_ ≠ ((.slice Ao31 t218.length co31) : Value).ownBlock ∧ some k_ ≠ ((.slice Ao35 t219.length co35) : Value).ownBlock ∧ some k_ ≠ ((.slice Ao38 t201.length co38) : Value).ownBlock ∧ some k_ ≠ ((.slice Ao43 t204.length co43) : Value).ownBlock ∧ some k_ ≠ ((.slice Ao133 t234.length co133) : Value).ownBlock) (.slice Ao127 t231.length co127) t231) ∧ Aside0 (Kd.R (Kd.int .i64) 3 wc w.heap.size (fun k_ => some k_ ≠ ((.slice Ao24 t186.length co24) : Value).ownBlock ∧ some k_ ≠ ((.slice Ao27 t189.length co27) : Value).ownBlock ∧ some k_ ≠ ((.slice Ao31 t218.length co31) : Value).ownBlock ∧ some k_ ≠ ((.slice Ao35 t219.length co35) : Value).ownBlock ∧ some k_ ≠ ((.slice Ao38 t201.length co38) : Value).ownBlock ∧ some k_ ≠ ((.slice Ao43 t204.length co43) : Value).ownBlock ∧ some k_ ≠ ((.slice Ao127 t231.length co127) : Value).ownBlock) (.slice Ao133 t234.length co133) t234) ∧ Aside0 (wc.heap[gb178]? = some (.cells #[(.slice A0_0 l0_0.length c0_0), (.slice A0_1 l0_1.length c0_1)] 48 (0, 0))) ∧ Aside0 (wc.heap[gb193]? = some (.cells #[(.slice Ao24 t186.length co24), (.slice Ao27 t189.length co27)] 37 (0, 0))) ∧ Aside0 (wc.heap[gb200]? = some (.cells #[(.slice Ao31 t218.length co31), (.slice Ao35 t219.length co35)] 37 (0, 0))) ∧ Aside0 (wc.heap[gb208]? = some (.cells #[(.slice Ao38 t201.length co38), (.slice Ao43 t204.length co43)] 37 (0, 0))) ∧ Aside0 (wc.heap[gb238]? = some (.cells #[(.slice Ao127 t231.length co127), (.slice Ao133 t234.length co133)] 37 (0, 0))) ∧ Aside0 (Below w.heap.size w wc))
           case first =>
            have H := HC111.out
            clear HC111
            replace H := Option.bind_eq_some_iff.mp H
            obtain ⟨t239, A1340, H⟩ := H
            replace H : (if t239 = true then (laws_FnExactHrdHear.j2 kj66 t221 (t237 != t192) t222 t223) else (laws_FnExactHrdHear.j2 kj66 t221 true t222 t223)) = some r := H
            have A134 := qM A1340
            clear A1340
            by_cases c135 : t239 = true
            ·subst c135
             have H1 : (laws_FnExactHrdHear.j2 kj66 t221 (t237 != t192) t222 t223) = some r := by rw [if_pos rfl] at H; exact H
             clear H
             have H := H1
             clear H1
             have H' := qM H
             clear H
             have hnb136 := NB238_178.out
             have hnc136 := NB178_238.out
             have hnb137 := NB238_193.out
             have hnc137 := NB193_238.out
             have hnb138 := NB238_200.out
             have hnc138 := NB200_238.out
             have hnb139 := NB238_208.out
             have hnc139 := NB208_238.out
             have hcz140_0 : w126.cell? ⟨gb238, 0, none⟩ = some (.slice none 0 0) := (zC BK238.out 0).trans rfl
             have hcz140_1 : w126.cell? ⟨gb238, 1, none⟩ = some (.slice none 0 0) := (zC BK238.out 1).trans rfl
             have hfz140_0 := zF BK238.out 0
             have hfz140_1 := zF BK238.out 1
             have hnb141 := NB193_178.out
             have hnc141 := NB178_193.out
             have hnb142 := NB193_200.out
             have hnc142 := NB200_193.out
             have hnb143 := NB193_208.out
             have hnc143 := NB208_193.out
             have hcz144_0 : w126.cell? ⟨gb193, 0, none⟩ = some (.slice Ao24 t186.length co24) := (zC BK193.out 0).trans rfl
             have hcz144_1 : w126.cell? ⟨gb193, 1, none⟩ = some (.slice Ao27 t189.length co27) := (zC BK193.out 1).trans rfl
             have hfz144_0 := zF BK193.out 0
             have hfz144_1 := zF BK193.out 1
             go_wp2_with (first | ((with_reducible refine gate_callee (f := 22) rfl ?_); refine goesL_ (some 96) rfl rfl Try.func22 (by kernel_rfl) rfl #[.agg #[.slice Ao127 t231.length co127, .slice Ao133 t234.length co133], .agg #[.slice Ao24 t186.length co24, .slice Ao27 t189.length co27]] rfl (by (try simp only [List.map_toArray, List.map_cons, List.map_nil]); first | done | rfl | (simp only [List.length_drop, List.length_take]; rfl)) ?_; (with_reducible refine (laws_eqHrdBook.calls kj66 _ _ t231 _ _ t234 _ _ t186 _ _ t189 true _ ?side1 ?side2 ?side3 ?side4 ?side5 ?side6 ?side7 ?side8 A134.out).mono ?_); (case side1 => refine (qR (e := 3) (base := w.heap.size) (ok := fun k_ => ((((((((some k_ ≠ (.slice Ao133 t234.length co133 : Value).ownBlock ∧ some k_ ≠ (.slice Ao24 t186.length co24 : Value).ownBlock) ∧ some k_ ≠ (.slice Ao27 t189.length co27 : Value).ownBlock) ∧ some k_ ≠ (.slice Ao31 t218.length co31 : Value).ownBlock) ∧ some k_ ≠ (.slice Ao35 t219.length co35 : Value).ownBlock) ∧ some k_ ≠ (.slice Ao38 t201.length co38 : Value).ownBlock) ∧ some k_ ≠ (.slice Ao43 t204.length co43 : Value).ownBlock) ∧ some k_ ≠ (.slice Ao123 t225.length co123 : Value).ownBlock) ∧ some k_ ≠ (.slice Ao124 t228.length co124 : Value).ownBlock)) (n := t231.length) (c := co127) ?_).2.2; exact (by (with_reducible repeat (first | apply qA | apply qN | apply qD)); exact (Kd.R_mono (qF (p := ⟨gb238, 1, none⟩) (qF (p := ⟨gb238, 0, none⟩) (Kd.R_types HO233.out BK238.out (by decide)) (fun _ hk => hk.2) (.slice Ao127 t231.length co127)) (fun _ hk => hk.2) (.slice Ao133 t234.length co133)) (fun _ h_ => h_.1)))); (case side2 => exact (qR HO233.out).2.1); (case side3 => refine (qR (e := 3) (base := w.heap.size) (ok := fun k_ => ((((((((some k_ ≠ (.slice Ao127 t231.length co127 : Value).ownBlock ∧ some k_ ≠ (.slice Ao24 t186.length co24 : Value).ownBlock) ∧ some k_ ≠ (.slice Ao27 t189.length co27 : Value).ownBlock) ∧ some k_ ≠ (.slice Ao31 t218.length co31 : Value).ownBlock) ∧ some k_ ≠ (.slice Ao35 t219.length co35 : Value).ownBlock) ∧ some k_ ≠ (.slice Ao38 t201.length co38 : Value).ownBlock) ∧ some k_ ≠ (.slice Ao43 t204.length co43 : Value).ownBlock) ∧ some k_ ≠ (.slice Ao123 t225.length co123 : Value).ownBlock) ∧ some k_ ≠ (.slice Ao124 t228.length co124 : Value).ownBlock)) (n := t234.length) (c := co133) ?_).2.2; exact (by (with_reducible repeat (first | apply qA | apply qN | apply qD)); exact (Kd.R_mono (qF (p := ⟨gb238, 1, none⟩) (qF (p := ⟨gb238, 0, none⟩) (Kd.R_types HO236.out BK238.out (by decide)) (fun _ hk => hk.2) (.slice Ao127 t231.length co127)) (fun _ hk => hk.2) (.slice Ao133 t234.length co133)) (fun _ h_ => h_.1)))); (case side4 => exact (qR HO236.out).2.1); (case side5 => refine (qR (e := 3) (base := w.heap.size) (ok := fun k_ => (((((some k_ ≠ (.slice Ao27 t189.length co27 : Value).ownBlock ∧ (some k_ ≠ (.slice Ao31 t218.length co31 : Value).ownBlock ∧ (some k_ ≠ (.slice Ao35 t219.length co35 : Value).ownBlock ∧ (some k_ ≠ (.slice Ao38 t201.length co38 : Value).ownBlock ∧ some k_ ≠ (.slice Ao43 t204.length co43 : Value).ownBlock)))) ∧ some k_ ≠ (.slice Ao123 t225.length co123 : Value).ownBlock) ∧ some k_ ≠ (.slice Ao124 t228.length co124 : Value).ownBlock) ∧ some k_ ≠ (.slice Ao127 t231.length co127 : Value).ownBlock) ∧ some k_ ≠ (.slice Ao133 t234.length co133 : Value).ownBlock)) (n := t186.length) (c := co24) ?_).2.2; exact (by (with_reducible repeat (first | apply qA | apply qN | apply qD)); exact (Kd.R_mono (qF (p := ⟨gb238, 1, none⟩) (qF (p := ⟨gb238, 0, none⟩) (Kd.R_types HO_194000.out BK238.out (by decide)) (fun _ hk => hk.2) (.slice Ao127 t231.length co127)) (fun _ hk => hk.2) (.slice Ao133 t234.length co133)) (fun _ h_ => h_.1)))); (case side6 => exact (qR HO_194000.out).2.1); (case side7 => refine (qR (e := 3) (base := w.heap.size) (ok := fun k_ => (((((some k_ ≠ (.slice Ao24 t186.length co24 : Value).ownBlock ∧ (some k_ ≠ (.slice Ao31 t218.length co31 : Value).ownBlock ∧ (some k_ ≠ (.slice Ao35 t219.length co35 : Value).ownBlock ∧ (some k_ ≠ (.slice Ao38 t201.length co38 : Value).ownBlock ∧ some k_ ≠ (.slice Ao43 t204.length co43 : Value).ownBlock)))) ∧ some k_ ≠ (.slice Ao123 t225.length co123 : Value).ownBlock) ∧ some k_ ≠ (.slice Ao124 t228.length co124 : Value).ownBlock) ∧ some k_ ≠ (.slice Ao127 t231.length co127 : Value).ownBlock) ∧ some k_ ≠ (.slice Ao133 t234.length co133 : Value).ownBlock)) (n := t189.length) (c := co27) ?_).2.2; exact (by (with_reducible repeat (first | apply qA | apply qN | apply qD)); exact (Kd.R_mono (qF (p := ⟨gb238, 1, none⟩) (qF (p := ⟨gb238, 0, none⟩) (Kd.R_types HO_194001.out BK238.out (by decide)) (fun _ hk => hk.2) (.slice Ao127 t231.length co127)) (fun _ hk => hk.2) (.slice Ao133 t234.length co133)) (fun _ h_ => h_.1)))); (case side8 => exact (qR HO_194001.out).2.1); rintro e w145 ⟨rfl, hb⟩; refine ⟨_, rfl, ?_⟩; have n0_ := qM (Kd.R_below (by (with_reducible repeat (first | apply qA | apply qN | apply qD)); exact (Kd.R_mono (qF (p := ⟨gb238, 1, none⟩) (qF (p := ⟨gb238, 0, none⟩) (Kd.R_types HO_194000.out BK238.out (by decide)) (fun _ hk => hk.2) (.slice Ao127 t231.length co127)) (fun _ hk => hk.2) (.slice Ao133 t234.length co133)) (fun _ h_ => h_.1))) hb); have n1_ := qM (Kd.R_below (by (with_reducible repeat (first | apply qA | apply qN | apply qD)); exact (Kd.R_mono (qF (p := ⟨gb238, 1, none⟩) (qF (p := ⟨gb238, 0, none⟩) (Kd.R_types HO_194001.out BK238.out (by decide)) (fun _ hk => hk.2) (.slice Ao127 t231.length co127)) (fun _ hk => hk.2) (.slice Ao133 t234.length co133)) (fun _ h_ => h_.1))) hb); have n2_ := qM (Kd.R_below (by (with_reducible repeat (first | apply qA | apply qN | apply qD)); exact (Kd.R_mono (qF (p := ⟨gb238, 1, none⟩) (qF (p := ⟨gb238, 0, none⟩) (Kd.R_types HO_201000.out BK238.out (by decide)) (fun _ hk => hk.2) (.slice Ao127 t231.length co127)) (fun _ hk => hk.2) (.slice Ao133 t234.length co133)) (fun _ h_ => h_.1))) hb); have n3_ := qM (Kd.R_below (by (with_reducible repeat (first | apply qA | apply qN | apply qD)); exact (Kd.R_mono (qF (p := ⟨gb238, 1, none⟩) (qF (p := ⟨gb238, 0, none⟩) (Kd.R_types HO_201001.out BK238.out (by decide)) (fun _ hk => hk.2) (.slice Ao127 t231.length co127)) (fun _ hk => hk.2) (.slice Ao133 t234.length co133)) (fun _ h_ => h_.1))) hb); have n4_ := qM (Kd.R_below (by (with_reducible repeat (first | apply qA | apply qN | apply qD)); exact (Kd.R_mono (qF (p := ⟨gb238, 1, none⟩) (qF (p := ⟨gb238, 0, none⟩) (Kd.R_types HO_209000.out BK238.out (by decide)) (fun _ hk => hk.2) (.slice Ao127 t231.length co127)) (fun _ hk => hk.2) (.slice Ao133 t234.length co133)) (fun _ h_ => h_.1))) hb); have n5_ := qM (Kd.R_below (by (with_reducible repeat (first | apply qA | apply qN | apply qD)); exact (Kd.R_mono (qF (p := ⟨gb238, 1, none⟩) (qF (p := ⟨gb238, 0, none⟩) (Kd.R_types HO_209001.out BK238.out (by decide)) (fun _ hk => hk.2) (.slice Ao127 t231.length co127)) (fun _ hk => hk.2) (.slice Ao133 t234.length co133)) (fun _ h_ => h_.1))) hb); have n6_ := qM (Kd.R_below (by (with_reducible repeat (first | apply qA | apply qN | apply qD)); exact (Kd.R_mono (qF (p := ⟨gb238, 1, none⟩) (qF (p := ⟨gb238, 0, none⟩) (Kd.R_types HO227.out BK238.out (by decide)) (fun _ hk => hk.2) (.slice Ao127 t231.length co127)) (fun _ hk => hk.2) (.slice Ao133 t234.length co133)) (fun _ h_ => h_.1))) hb); have n7_ := qM (Kd.R_below (by (with_reducible repeat (first | apply qA | apply qN | apply qD)); exact (Kd.R_mono (qF (p := ⟨gb238, 1, none⟩) (qF (p := ⟨gb238, 0, none⟩) (Kd.R_types HO230.out BK238.out (by decide)) (fun _ hk => hk.2) (.slice Ao127 t231.length co127)) (fun _ hk => hk.2) (.slice Ao133 t234.length co133)) (fun _ h_ => h_.1))) hb); have n8_ := qM (Kd.R_below (by (with_reducible repeat (first | apply qA | apply qN | apply qD)); exact (Kd.R_mono (qF (p := ⟨gb238, 1, none⟩) (qF (p := ⟨gb238, 0, none⟩) (Kd.R_types HO233.out BK238.out (by decide)) (fun _ hk => hk.2) (.slice Ao127 t231.length co127)) (fun _ hk => hk.2) (.slice Ao133 t234.length co133)) (fun _ h_ => h_.1))) hb); have n9_ := qM (Kd.R_below (by (with_reducible repeat (first | apply qA | apply qN | apply qD)); exact (Kd.R_mono (qF (p := ⟨gb238, 1, none⟩) (qF (p := ⟨gb238, 0, none⟩) (Kd.R_types HO236.out BK238.out (by decide)) (fun _ hk => hk.2) (.slice Ao127 t231.length co127)) (fun _ hk => hk.2) (.slice Ao133 t234.length co133)) (fun _ h_ => h_.1))) hb); have n10_ := qM (blk_below (g := gb178) (o := .cells #[.slice A0_0 l0_0.length c0_0, .slice A0_1 l0_1.length c0_1] 48 (0, 0)) (by (with_reducible repeat (first | refine zN ?_ _ | refine zD ?_ | refine zA ?_ _)); refine blk_far ?_ NB178_238.out _; (with_reducible repeat (first | refine zN ?_ _ | refine zD ?_ | refine zA ?_ _)); refine blk_far ?_ NB178_238.out _; (with_reducible repeat (first | refine zN ?_ _ | refine zD ?_ | refine zA ?_ _)); exact BK178.out) hb); have n11_ := qM (blk_below (g := gb193) (o := .cells #[.slice Ao24 t186.length co24, .slice Ao27 t189.length co27] 37 (0, 0)) (by (with_reducible repeat (first | refine zN ?_ _ | refine zD ?_ | refine zA ?_ _)); refine blk_far ?_ NB193_238.out _; (with_reducible repeat (first | refine zN ?_ _ | refine zD ?_ | refine zA ?_ _)); refine blk_far ?_ NB193_238.out _; (with_reducible repeat (first | refine zN ?_ _ | refine zD ?_ | refine zA ?_ _)); exact BK193.out) hb); have n12_ := qM (blk_below (g := gb200) (o := .cells #[.slice Ao31 t218.length co31, .slice Ao35 t219.length co35] 37 (0, 0)) (by (with_reducible repeat (first | refine zN ?_ _ | refine zD ?_ | refine zA ?_ _)); refine blk_far ?_ NB200_238.out _; (with_reducible repeat (first | refine zN ?_ _ | refine zD ?_ | refine zA ?_ _)); refine blk_far ?_ NB200_238.out _; (with_reducible repeat (first | refine zN ?_ _ | refine zD ?_ | refine zA ?_ _)); exact BK200.out) hb); have n13_ := qM (blk_below (g := gb208) (o := .cells #[.slice Ao38 t201.length co38, .slice Ao43 t204.length co43] 37 (0, 0)) (by (with_reducible repeat (first | refine zN ?_ _ | refine zD ?_ | refine zA ?_ _)); refine blk_far ?_ NB208_238.out _; (with_reducible repeat (first | refine zN ?_ _ | refine zD ?_ | refine zA ?_ _)); refine blk_far ?_ NB208_238.out _; (with_reducible repeat (first | refine zN ?_ _ | refine zD ?_ | refine zA ?_ _)); exact BK208.out) hb); have n14_ := qM (blk_below (g := gb238) (o := .cells #[.slice Ao127 t231.length co127, .slice Ao133 t234.length co133] 37 (0, 0)) (by (with_reducible repeat (first | refine zN ?_ _ | refine zD ?_ | refine zA ?_ _)); refine blk_put (cs := #[.slice Ao127 t231.length co127, .slice none 0 0]) ?_ 1 _ rfl; (with_reducible repeat (first | refine zN ?_ _ | refine zD ?_ | refine zA ?_ _)); refine blk_put (cs := #[.slice none 0 0, .slice none 0 0]) ?_ 0 _ rfl; (with_reducible repeat (first | refine zN ?_ _ | refine zD ?_ | refine zA ?_ _)); exact BK238.out) hb); have n15_ := qM (below_step (by repeat (first | (with_reducible first | exact HB.out | apply yA | apply yN | apply yD | refine yS ?_ GE178.out | refine yS ?_ GE193.out | refine yS ?_ GE200.out | refine yS ?_ GE208.out | refine yS ?_ GE238.out) | exact HB.out)) hb); clear HO_194000; clear HO_194001; clear HO_201000; clear HO_201001; clear HO_209000; clear HO_209001; clear HO227; clear HO230; clear HO233; clear HO236; clear BK178; clear BK193; clear BK200; clear BK208; clear BK238; clear HB; have HO_194000 := n0_; have HO_194001 := n1_; have HO_201000 := n2_; have HO_201001 := n3_; have HO_209000 := n4_; have HO_209001 := n5_; have HO227 := n6_; have HO230 := n7_; have HO233 := n8_; have HO236 := n9_; have BK178 := n10_; have BK193 := n11_; have BK200 := n12_; have BK208 := n13_; have BK238 := n14_; have HB := n15_; clear n0_ n1_ n2_ n3_ n4_ n5_ n6_ n7_ n8_ n9_ n10_ n11_ n12_ n13_ n14_ n15_; (try clear hb); (try clear hb2); (try clear hk); (try clear hi)))
             go_meet
             case rel => exact ⟨_, ((t237 != t192)), (by first | rfl | (simp; done) | (simp [*]; done)), H', ⟨by have := HJ13.out; have := HJ66.out; first | omega | exact Nat.le_refl _⟩, ⟨by (try simp only [hl201000_66]); (try simp only [hl201001_66]); (with_reducible repeat (first | apply qA | apply qN | apply qD)); exact Kd.R_mono HO_194000.out (fun _ hk => ⟨hk.1.1.1.1.1, ⟨hk.1.1.1.1.2.1, ⟨hk.1.1.1.1.2.2.1, ⟨hk.1.1.1.1.2.2.2.1, ⟨hk.1.1.1.1.2.2.2.2, ⟨hk.1.2, hk.2⟩⟩⟩⟩⟩⟩)⟩, ⟨by (try simp only [hl201000_66]); (try simp only [hl201001_66]); (with_reducible repeat (first | apply qA | apply qN | apply qD)); exact Kd.R_mono HO_194001.out (fun _ hk => ⟨hk.1.1.1.1.1, ⟨hk.1.1.1.1.2.1, ⟨hk.1.1.1.1.2.2.1, ⟨hk.1.1.1.1.2.2.2.1, ⟨hk.1.1.1.1.2.2.2.2, ⟨hk.1.2, hk.2⟩⟩⟩⟩⟩⟩)⟩, ⟨by (try simp only [hl201000_66]); (try simp only [hl201001_66]); (with_reducible repeat (first | apply qA | apply qN | apply qD)); exact Kd.R_mono HO_201000.out (fun _ hk => ⟨hk.1.1.1.1.1, ⟨hk.1.1.1.1.2.1, ⟨hk.1.1.1.1.2.2.1, ⟨hk.1.1.1.1.2.2.2.1, ⟨hk.1.1.1.1.2.2.2.2, ⟨hk.1.2, hk.2⟩⟩⟩⟩⟩⟩)⟩, ⟨by (try simp only [hl201000_66]); (try simp only [hl201001_66]); (with_reducible repeat (first | apply qA | apply qN | apply qD)); exact Kd.R_mono HO_201001.out (fun _ hk => ⟨hk.1.1.1.1.1, ⟨hk.1.1.1.1.2.1, ⟨hk.1.1.1.1.2.2.1, ⟨hk.1.1.1.1.2.2.2.1, ⟨hk.1.1.1.1.2.2.2.2, ⟨hk.1.2, hk.2⟩⟩⟩⟩⟩⟩)⟩, ⟨by (try simp only [hl201000_66]); (try simp only [hl201001_66]); (with_reducible repeat (first | apply qA | apply qN | apply qD)); exact Kd.R_mono HO_209000.out (fun _ hk => ⟨hk.1.1.1.1.1, ⟨hk.1.1.1.1.2.1, ⟨hk.1.1.1.1.2.2.1, ⟨hk.1.1.1.1.2.2.2.1, ⟨hk.1.1.1.1.2.2.2.2, ⟨hk.1.2, hk.2⟩⟩⟩⟩⟩⟩)⟩, ⟨by (try simp only [hl201000_66]); (try simp only [hl201001_66]); (with_reducible repeat (first | apply qA | apply qN | apply qD)); exact Kd.R_mono HO_209001.out (fun _ hk => ⟨hk.1.1.1.1.1, ⟨hk.1.1.1.1.2.1, ⟨hk.1.1.1.1.2.2.1, ⟨hk.1.1.1.1.2.2.2.1, ⟨hk.1.1.1.1.2.2.2.2, ⟨hk.1.2, hk.2⟩⟩⟩⟩⟩⟩)⟩, ⟨by (try simp only [hl201000_66]); (try simp only [hl201001_66]); (with_reducible repeat (first | apply qA | apply qN | apply qD)); exact Kd.R_mono HO233.out (fun _ hk => ⟨hk.1.1.1.1.1.1.1.2, ⟨hk.1.1.1.1.1.1.2, ⟨hk.1.1.1.1.1.2, ⟨hk.1.1.1.1.2, ⟨hk.1.1.1.2, ⟨hk.1.1.2, hk.1.1.1.1.1.1.1.1⟩⟩⟩⟩⟩⟩)⟩, ⟨by (try simp only [hl201000_66]); (try simp only [hl201001_66]); (with_reducible repeat (first | apply qA | apply qN | apply qD)); exact Kd.R_mono HO236.out (fun _ hk => ⟨hk.1.1.1.1.1.1.1.2, ⟨hk.1.1.1.1.1.1.2, ⟨hk.1.1.1.1.1.2, ⟨hk.1.1.1.1.2, ⟨hk.1.1.1.2, ⟨hk.1.1.2, hk.1.1.1.1.1.1.1.1⟩⟩⟩⟩⟩⟩)⟩, ⟨by (try simp only [hl201000_66]); (try simp only [hl201001_66]); (with_reducible repeat (first | refine zN ?_ _ | refine zD ?_ | refine zA ?_ _)); exact BK178.out⟩, ⟨by (try simp only [hl201000_66]); (try simp only [hl201001_66]); (with_reducible repeat (first | refine zN ?_ _ | refine zD ?_ | refine zA ?_ _)); exact BK193.out⟩, ⟨by (try simp only [hl201000_66]); (try simp only [hl201001_66]); (with_reducible repeat (first | refine zN ?_ _ | refine zD ?_ | refine zA ?_ _)); exact BK200.out⟩, ⟨by (try simp only [hl201000_66]); (try simp only [hl201001_66]); (with_reducible repeat (first | refine zN ?_ _ | refine zD ?_ | refine zA ?_ _)); exact BK208.out⟩, ⟨by (try simp only [hl201000_66]); (try simp only [hl201001_66]); (with_reducible repeat (first | refine zN ?_ _ | refine zD ?_ | refine zA ?_ _)); exact BK238.out⟩, ⟨by repeat (first | (with_reducible first | exact HB.out | apply yA | apply yN | apply yD | refine yS ?_ GE178.out | refine yS ?_ GE193.out | refine yS ?_ GE200.out | refine yS ?_ GE208.out | refine yS ?_ GE238.out) | exact HB.out)⟩⟩
            ·replace c135 := Bool.eq_false_iff.mpr c135
             subst c135
             have H1 : (laws_FnExactHrdHear.j2 kj66 t221 true t222 t223) = some r := by rw [if_neg (show ¬ (false = true) by decide)] at H; exact H
             clear H
             have H := H1
             clear H1
             have H' := qM H
             clear H
             have hnb146 := NB238_178.out
             have hnc146 := NB178_238.out
             have hnb147 := NB238_193.out
             have hnc147 := NB193_238.out
             have hnb148 := NB238_200.out
             have hnc148 := NB200_238.out
             have hnb149 := NB238_208.out
             have hnc149 := NB208_238.out
             have hcz150_0 : w126.cell? ⟨gb238, 0, none⟩ = some (.slice none 0 0) := (zC BK238.out 0).trans rfl
             have hcz150_1 : w126.cell? ⟨gb238, 1, none⟩ = some (.slice none 0 0) := (zC BK238.out 1).trans rfl
             have hfz150_0 := zF BK238.out 0
             have hfz150_1 := zF BK238.out 1
             have hnb151 := NB193_178.out
             have hnc151 := NB178_193.out
             have hnb152 := NB193_200.out
             have hnc152 := NB200_193.out
             have hnb153 := NB193_208.out
             have hnc153 := NB208_193.out
             have hcz154_0 : w126.cell? ⟨gb193, 0, none⟩ = some (.slice Ao24 t186.length co24) := (zC BK193.out 0).trans rfl
             have hcz154_1 : w126.cell? ⟨gb193, 1, none⟩ = some (.slice Ao27 t189.length co27) := (zC BK193.out 1).trans rfl
             have hfz154_0 := zF BK193.out 0
             have hfz154_1 := zF BK193.out 1
             go_wp2_with (first | ((with_reducible refine gate_callee (f := 22) rfl ?_); refine goesL_ (some 96) rfl rfl Try.func22 (by kernel_rfl) rfl #[.agg #[.slice Ao127 t231.length co127, .slice Ao133 t234.length co133], .agg #[.slice Ao24 t186.length co24, .slice Ao27 t189.length co27]] rfl (by (try simp only [List.map_toArray, List.map_cons, List.map_nil]); first | done | rfl | (simp only [List.length_drop, List.length_take]; rfl)) ?_; (with_reducible refine (laws_eqHrdBook.calls kj66 _ _ t231 _ _ t234 _ _ t186 _ _ t189 false _ ?side1 ?side2 ?side3 ?side4 ?side5 ?side6 ?side7 ?side8 A134.out).mono ?_); (case side1 => refine (qR (e := 3) (base := w.heap.size) (ok := fun k_ => ((((((((some k_ ≠ (.slice Ao133 t234.length co133 : Value).ownBlock ∧ some k_ ≠ (.slice Ao24 t186.length co24 : Value).ownBlock) ∧ some k_ ≠ (.slice Ao27 t189.length co27 : Value).ownBlock) ∧ some k_ ≠ (.slice Ao31 t218.length co31 : Value).ownBlock) ∧ some k_ ≠ (.slice Ao35 t219.length co35 : Value).ownBlock) ∧ some k_ ≠ (.slice Ao38 t201.length co38 : Value).ownBlock) ∧ some k_ ≠ (.slice Ao43 t204.length co43 : Value).ownBlock) ∧ some k_ ≠ (.slice Ao123 t225.length co123 : Value).ownBlock) ∧ some k_ ≠ (.slice Ao124 t228.length co124 : Value).ownBlock)) (n := t231.length) (c := co127) ?_).2.2; exact (by (with_reducible repeat (first | apply qA | apply qN | apply qD)); exact (Kd.R_mono (qF (p := ⟨gb238, 1, none⟩) (qF (p := ⟨gb238, 0, none⟩) (Kd.R_types HO233.out BK238.out (by decide)) (fun _ hk => hk.2) (.slice Ao127 t231.length co127)) (fun _ hk => hk.2) (.slice Ao133 t234.length co133)) (fun _ h_ => h_.1)))); (case side2 => exact (qR HO233.out).2.1); (case side3 => refine (qR (e := 3) (base := w.heap.size) (ok := fun k_ => ((((((((some k_ ≠ (.slice Ao127 t231.length co127 : Value).ownBlock ∧ some k_ ≠ (.slice Ao24 t186.length co24 : Value).ownBlock) ∧ some k_ ≠ (.slice Ao27 t189.length co27 : Value).ownBlock) ∧ some k_ ≠ (.slice Ao31 t218.length co31 : Value).ownBlock) ∧ some k_ ≠ (.slice Ao35 t219.length co35 : Value).ownBlock) ∧ some k_ ≠ (.slice Ao38 t201.length co38 : Value).ownBlock) ∧ some k_ ≠ (.slice Ao43 t204.length co43 : Value).ownBlock) ∧ some k_ ≠ (.slice Ao123 t225.length co123 : Value).ownBlock) ∧ some k_ ≠ (.slice Ao124 t228.length co124 : Value).ownBlock)) (n := t234.length) (c := co133) ?_).2.2; exact (by (with_reducible repeat (first | apply qA | apply qN | apply qD)); exact (Kd.R_mono (qF (p := ⟨gb238, 1, none⟩) (qF (p := ⟨gb238, 0, none⟩) (Kd.R_types HO236.out BK238.out (by decide)) (fun _ hk => hk.2) (.slice Ao127 t231.length co127)) (fun _ hk => hk.2) (.slice Ao133 t234.length co133)) (fun _ h_ => h_.1)))); (case side4 => exact (qR HO236.out).2.1); (case side5 => refine (qR (e := 3) (base := w.heap.size) (ok := fun k_ => (((((some k_ ≠ (.slice Ao27 t189.length co27 : Value).ownBlock ∧ (some k_ ≠ (.slice Ao31 t218.length co31 : Value).ownBlock ∧ (some k_ ≠ (.slice Ao35 t219.length co35 : Value).ownBlock ∧ (some k_ ≠ (.slice Ao38 t201.length co38 : Value).ownBlock ∧ some k_ ≠ (.slice Ao43 t204.length co43 : Value).ownBlock)))) ∧ some k_ ≠ (.slice Ao123 t225.length co123 : Value).ownBlock) ∧ some k_ ≠ (.slice Ao124 t228.length co124 : Value).ownBlock) ∧ some k_ ≠ (.slice Ao127 t231.length co127 : Value).ownBlock) ∧ some k_ ≠ (.slice Ao133 t234.length co133 : Value).ownBlock)) (n := t186.length) (c := co24) ?_).2.2; exact (by (with_reducible repeat (first | apply qA | apply qN | apply qD)); exact (Kd.R_mono (qF (p := ⟨gb238, 1, none⟩) (qF (p := ⟨gb238, 0, none⟩) (Kd.R_types HO_194000.out BK238.out (by decide)) (fun _ hk => hk.2) (.slice Ao127 t231.length co127)) (fun _ hk => hk.2) (.slice Ao133 t234.length co133)) (fun _ h_ => h_.1)))); (case side6 => exact (qR HO_194000.out).2.1); (case side7 => refine (qR (e := 3) (base := w.heap.size) (ok := fun k_ => (((((some k_ ≠ (.slice Ao24 t186.length co24 : Value).ownBlock ∧ (some k_ ≠ (.slice Ao31 t218.length co31 : Value).ownBlock ∧ (some k_ ≠ (.slice Ao35 t219.length co35 : Value).ownBlock ∧ (some k_ ≠ (.slice Ao38 t201.length co38 : Value).ownBlock ∧ some k_ ≠ (.slice Ao43 t204.length co43 : Value).ownBlock)))) ∧ some k_ ≠ (.slice Ao123 t225.length co123 : Value).ownBlock) ∧ some k_ ≠ (.slice Ao124 t228.length co124 : Value).ownBlock) ∧ some k_ ≠ (.slice Ao127 t231.length co127 : Value).ownBlock) ∧ some k_ ≠ (.slice Ao133 t234.length co133 : Value).ownBlock)) (n := t189.length) (c := co27) ?_).2.2; exact (by (with_reducible repeat (first | apply qA | apply qN | apply qD)); exact (Kd.R_mono (qF (p := ⟨gb238, 1, none⟩) (qF (p := ⟨gb238, 0, none⟩) (Kd.R_types HO_194001.out BK238.out (by decide)) (fun _ hk => hk.2) (.slice Ao127 t231.length co127)) (fun _ hk => hk.2) (.slice Ao133 t234.length co133)) (fun _ h_ => h_.1)))); (case side8 => exact (qR HO_194001.out).2.1); rintro e w155 ⟨rfl, hb⟩; refine ⟨_, rfl, ?_⟩; have n0_ := qM (Kd.R_below (by (with_reducible repeat (first | apply qA | apply qN | apply qD)); exact (Kd.R_mono (qF (p := ⟨gb238, 1, none⟩) (qF (p := ⟨gb238, 0, none⟩) (Kd.R_types HO_194000.out BK238.out (by decide)) (fun _ hk => hk.2) (.slice Ao127 t231.length co127)) (fun _ hk => hk.2) (.slice Ao133 t234.length co133)) (fun _ h_ => h_.1))) hb); have n1_ := qM (Kd.R_below (by (with_reducible repeat (first | apply qA | apply qN | apply qD)); exact (Kd.R_mono (qF (p := ⟨gb238, 1, none⟩) (qF (p := ⟨gb238, 0, none⟩) (Kd.R_types HO_194001.out BK238.out (by decide)) (fun _ hk => hk.2) (.slice Ao127 t231.length co127)) (fun _ hk => hk.2) (.slice Ao133 t234.length co133)) (fun _ h_ => h_.1))) hb); have n2_ := qM (Kd.R_below (by (with_reducible repeat (first | apply qA | apply qN | apply qD)); exact (Kd.R_mono (qF (p := ⟨gb238, 1, none⟩) (qF (p := ⟨gb238, 0, none⟩) (Kd.R_types HO_201000.out BK238.out (by decide)) (fun _ hk => hk.2) (.slice Ao127 t231.length co127)) (fun _ hk => hk.2) (.slice Ao133 t234.length co133)) (fun _ h_ => h_.1))) hb); have n3_ := qM (Kd.R_below (by (with_reducible repeat (first | apply qA | apply qN | apply qD)); exact (Kd.R_mono (qF (p := ⟨gb238, 1, none⟩) (qF (p := ⟨gb238, 0, none⟩) (Kd.R_types HO_201001.out BK238.out (by decide)) (fun _ hk => hk.2) (.slice Ao127 t231.length co127)) (fun _ hk => hk.2) (.slice Ao133 t234.length co133)) (fun _ h_ => h_.1))) hb); have n4_ := qM (Kd.R_below (by (with_reducible repeat (first | apply qA | apply qN | apply qD)); exact (Kd.R_mono (qF (p := ⟨gb238, 1, none⟩) (qF (p := ⟨gb238, 0, none⟩) (Kd.R_types HO_209000.out BK238.out (by decide)) (fun _ hk => hk.2) (.slice Ao127 t231.length co127)) (fun _ hk => hk.2) (.slice Ao133 t234.length co133)) (fun _ h_ => h_.1))) hb); have n5_ := qM (Kd.R_below (by (with_reducible repeat (first | apply qA | apply qN | apply qD)); exact (Kd.R_mono (qF (p := ⟨gb238, 1, none⟩) (qF (p := ⟨gb238, 0, none⟩) (Kd.R_types HO_209001.out BK238.out (by decide)) (fun _ hk => hk.2) (.slice Ao127 t231.length co127)) (fun _ hk => hk.2) (.slice Ao133 t234.length co133)) (fun _ h_ => h_.1))) hb); have n6_ := qM (Kd.R_below (by (with_reducible repeat (first | apply qA | apply qN | apply qD)); exact (Kd.R_mono (qF (p := ⟨gb238, 1, none⟩) (qF (p := ⟨gb238, 0, none⟩) (Kd.R_types HO227.out BK238.out (by decide)) (fun _ hk => hk.2) (.slice Ao127 t231.length co127)) (fun _ hk => hk.2) (.slice Ao133 t234.length co133)) (fun _ h_ => h_.1))) hb); have n7_ := qM (Kd.R_below (by (with_reducible repeat (first | apply qA | apply qN | apply qD)); exact (Kd.R_mono (qF (p := ⟨gb238, 1, none⟩) (qF (p := ⟨gb238, 0, none⟩) (Kd.R_types HO230.out BK238.out (by decide)) (fun _ hk => hk.2) (.slice Ao127 t231.length co127)) (fun _ hk => hk.2) (.slice Ao133 t234.length co133)) (fun _ h_ => h_.1))) hb); have n8_ := qM (Kd.R_below (by (with_reducible repeat (first | apply qA | apply qN | apply qD)); exact (Kd.R_mono (qF (p := ⟨gb238, 1, none⟩) (qF (p := ⟨gb238, 0, none⟩) (Kd.R_types HO233.out BK238.out (by decide)) (fun _ hk => hk.2) (.slice Ao127 t231.length co127)) (fun _ hk => hk.2) (.slice Ao133 t234.length co133)) (fun _ h_ => h_.1))) hb); have n9_ := qM (Kd.R_below (by (with_reducible repeat (first | apply qA | apply qN | apply qD)); exact (Kd.R_mono (qF (p := ⟨gb238, 1, none⟩) (qF (p := ⟨gb238, 0, none⟩) (Kd.R_types HO236.out BK238.out (by decide)) (fun _ hk => hk.2) (.slice Ao127 t231.length co127)) (fun _ hk => hk.2) (.slice Ao133 t234.length co133)) (fun _ h_ => h_.1))) hb); have n10_ := qM (blk_below (g := gb178) (o := .cells #[.slice A0_0 l0_0.length c0_0, .slice A0_1 l0_1.length c0_1] 48 (0, 0)) (by (with_reducible repeat (first | refine zN ?_ _ | refine zD ?_ | refine zA ?_ _)); refine blk_far ?_ NB178_238.out _; (with_reducible repeat (first | refine zN ?_ _ | refine zD ?_ | refine zA ?_ _)); refine blk_far ?_ NB178_238.out _; (with_reducible repeat (first | refine zN ?_ _ | refine zD ?_ | refine zA ?_ _)); exact BK178.out) hb); have n11_ := qM (blk_below (g := gb193) (o := .cells #[.slice Ao24 t186.length co24, .slice Ao27 t189.length co27] 37 (0, 0)) (by (with_reducible repeat (first | refine zN ?_ _ | refine zD ?_ | refine zA ?_ _)); refine blk_far ?_ NB193_238.out _; (with_reducible repeat (first | refine zN ?_ _ | refine zD ?_ | refine zA ?_ _)); refine blk_far ?_ NB193_238.out _; (with_reducible repeat (first | refine zN ?_ _ | refine zD ?_ | refine zA ?_ _)); exact BK193.out) hb); have n12_ := qM (blk_below (g := gb200) (o := .cells #[.slice Ao31 t218.length co31, .slice Ao35 t219.length co35] 37 (0, 0)) (by (with_reducible repeat (first | refine zN ?_ _ | refine zD ?_ | refine zA ?_ _)); refine blk_far ?_ NB200_238.out _; (with_reducible repeat (first | refine zN ?_ _ | refine zD ?_ | refine zA ?_ _)); refine blk_far ?_ NB200_238.out _; (with_reducible repeat (first | refine zN ?_ _ | refine zD ?_ | refine zA ?_ _)); exact BK200.out) hb); have n13_ := qM (blk_below (g := gb208) (o := .cells #[.slice Ao38 t201.length co38, .slice Ao43 t204.length co43] 37 (0, 0)) (by (with_reducible repeat (first | refine zN ?_ _ | refine zD ?_ | refine zA ?_ _)); refine blk_far ?_ NB208_238.out _; (with_reducible repeat (first | refine zN ?_ _ | refine zD ?_ | refine zA ?_ _)); refine blk_far ?_ NB208_238.out _; (with_reducible repeat (first | refine zN ?_ _ | refine zD ?_ | refine zA ?_ _)); exact BK208.out) hb); have n14_ := qM (blk_below (g := gb238) (o := .cells #[.slice Ao127 t231.length co127, .slice Ao133 t234.length co133] 37 (0, 0)) (by (with_reducible repeat (first | refine zN ?_ _ | refine zD ?_ | refine zA ?_ _)); refine blk_put (cs := #[.slice Ao127 t231.length co127, .slice none 0 0]) ?_ 1 _ rfl; (with_reducible repeat (first | refine zN ?_ _ | refine zD ?_ | refine zA ?_ _)); refine blk_put (cs := #[.slice none 0 0, .slice none 0 0]) ?_ 0 _ rfl; (with_reducible repeat (first | refine zN ?_ _ | refine zD ?_ | refine zA ?_ _)); exact BK238.out) hb); have n15_ := qM (below_step (by repeat (first | (with_reducible first | exact HB.out | apply yA | apply yN | apply yD | refine yS ?_ GE178.out | refine yS ?_ GE193.out | refine yS ?_ GE200.out | refine yS ?_ GE208.out | refine yS ?_ GE238.out) | exact HB.out)) hb); clear HO_194000; clear HO_194001; clear HO_201000; clear HO_201001; clear HO_209000; clear HO_209001; clear HO227; clear HO230; clear HO233; clear HO236; clear BK178; clear BK193; clear BK200; clear BK208; clear BK238; clear HB; have HO_194000 := n0_; have HO_194001 := n1_; have HO_201000 := n2_; have HO_201001 := n3_; have HO_209000 := n4_; have HO_209001 := n5_; have HO227 := n6_; have HO230 := n7_; have HO233 := n8_; have HO236 := n9_; have BK178 := n10_; have BK193 := n11_; have BK200 := n12_; have BK208 := n13_; have BK238 := n14_; have HB := n15_; clear n0_ n1_ n2_ n3_ n4_ n5_ n6_ n7_ n8_ n9_ n10_ n11_ n12_ n13_ n14_ n15_; (try clear hb); (try clear hb2); (try clear hk); (try clear hi)))
             go_meet
             case rel => exact ⟨_, (true), (by first | rfl | (simp; done) | (simp [*]; done)), H', ⟨by have := HJ13.out; have := HJ66.out; first | omega | exact Nat.le_refl _⟩, ⟨by (try simp only [hl201000_66]); (try simp only [hl201001_66]); (with_reducible repeat (first | apply qA | apply qN | apply qD)); exact Kd.R_mono HO_194000.out (fun _ hk => ⟨hk.1.1.1.1.1, ⟨hk.1.1.1.1.2.1, ⟨hk.1.1.1.1.2.2.1, ⟨hk.1.1.1.1.2.2.2.1, ⟨hk.1.1.1.1.2.2.2.2, ⟨hk.1.2, hk.2⟩⟩⟩⟩⟩⟩)⟩, ⟨by (try simp only [hl201000_66]); (try simp only [hl201001_66]); (with_reducible repeat (first | apply qA | apply qN | apply qD)); exact Kd.R_mono HO_194001.out (fun _ hk => ⟨hk.1.1.1.1.1, ⟨hk.1.1.1.1.2.1, ⟨hk.1.1.1.1.2.2.1, ⟨hk.1.1.1.1.2.2.2.1, ⟨hk.1.1.1.1.2.2.2.2, ⟨hk.1.2, hk.2⟩⟩⟩⟩⟩⟩)⟩, ⟨by (try simp only [hl201000_66]); (try simp only [hl201001_66]); (with_reducible repeat (first | apply qA | apply qN | apply qD)); exact Kd.R_mono HO_201000.out (fun _ hk => ⟨hk.1.1.1.1.1, ⟨hk.1.1.1.1.2.1, ⟨hk.1.1.1.1.2.2.1, ⟨hk.1.1.1.1.2.2.2.1, ⟨hk.1.1.1.1.2.2.2.2, ⟨hk.1.2, hk.2⟩⟩⟩⟩⟩⟩)⟩, ⟨by (try simp only [hl201000_66]); (try simp only [hl201001_66]); (with_reducible repeat (first | apply qA | apply qN | apply qD)); exact Kd.R_mono HO_201001.out (fun _ hk => ⟨hk.1.1.1.1.1, ⟨hk.1.1.1.1.2.1, ⟨hk.1.1.1.1.2.2.1, ⟨hk.1.1.1.1.2.2.2.1, ⟨hk.1.1.1.1.2.2.2.2, ⟨hk.1.2, hk.2⟩⟩⟩⟩⟩⟩)⟩, ⟨by (try simp only [hl201000_66]); (try simp only [hl201001_66]); (with_reducible repeat (first | apply qA | apply qN | apply qD)); exact Kd.R_mono HO_209000.out (fun _ hk => ⟨hk.1.1.1.1.1, ⟨hk.1.1.1.1.2.1, ⟨hk.1.1.1.1.2.2.1, ⟨hk.1.1.1.1.2.2.2.1, ⟨hk.1.1.1.1.2.2.2.2, ⟨hk.1.2, hk.2⟩⟩⟩⟩⟩⟩)⟩, ⟨by (try simp only [hl201000_66]); (try simp only [hl201001_66]); (with_reducible repeat (first | apply qA | apply qN | apply qD)); exact Kd.R_mono HO_209001.out (fun _ hk => ⟨hk.1.1.1.1.1, ⟨hk.1.1.1.1.2.1, ⟨hk.1.1.1.1.2.2.1, ⟨hk.1.1.1.1.2.2.2.1, ⟨hk.1.1.1.1.2.2.2.2, ⟨hk.1.2, hk.2⟩⟩⟩⟩⟩⟩)⟩, ⟨by (try simp only [hl201000_66]); (try simp only [hl201001_66]); (with_reducible repeat (first | apply qA | apply qN | apply qD)); exact Kd.R_mono HO233.out (fun _ hk => ⟨hk.1.1.1.1.1.1.1.2, ⟨hk.1.1.1.1.1.1.2, ⟨hk.1.1.1.1.1.2, ⟨hk.1.1.1.1.2, ⟨hk.1.1.1.2, ⟨hk.1.1.2, hk.1.1.1.1.1.1.1.1⟩⟩⟩⟩⟩⟩)⟩, ⟨by (try simp only [hl201000_66]); (try simp only [hl201001_66]); (with_reducible repeat (first | apply qA | apply qN | apply qD)); exact Kd.R_mono HO236.out (fun _ hk => ⟨hk.1.1.1.1.1.1.1.2, ⟨hk.1.1.1.1.1.1.2, ⟨hk.1.1.1.1.1.2, ⟨hk.1.1.1.1.2, ⟨hk.1.1.1.2, ⟨hk.1.1.2, hk.1.1.1.1.1.1.1.1⟩⟩⟩⟩⟩⟩)⟩, ⟨by (try simp only [hl201000_66]); (try simp only [hl201001_66]); (with_reducible repeat (first | refine zN ?_ _ | refine zD ?_ | refine zA ?_ _)); exact BK178.out⟩, ⟨by (try simp only [hl201000_66]); (try simp only [hl201001_66]); (with_reducible repeat (first | refine zN ?_ _ | refine zD ?_ | refine zA ?_ _)); exact BK193.out⟩, ⟨by (try simp only [hl201000_66]); (try simp only [hl201001_66]); (with_reducible repeat (first | refine zN ?_ _ | refine zD ?_ | refine zA ?_ _)); exact BK200.out⟩, ⟨by (try simp only [hl201000_66]); (try simp only [hl201001_66]); (with_reducible repeat (first | refine zN ?_ _ | refine zD ?_ | refine zA ?_ _)); exact BK208.out⟩, ⟨by (try simp only [hl201000_66]); (try simp only [hl201001_66]); (with_reducible repeat (first | refine zN ?_ _ | refine zD ?_ | refine zA ?_ _)); exact BK238.out⟩, ⟨by repeat (first | (with_reducible first | exact HB.out | apply yA | apply yN | apply yD | refine yS ?_ GE178.out | refine yS ?_ GE193.out | refine yS ?_ GE200.out | refine yS ?_ GE208.out | refine yS ?_ GE238.out) | exact HB.out)⟩⟩
           case rest =>
            clear HC111
            try clear c1
            try clear c2
            try clear p2
            try clear c3
            try clear c4
            try clear c5
            try clear c6
            try clear c6b0
            try clear c7
            try clear c8
            try clear c9
            try clear c10
            try clear c11
            try clear c12
            try clear c13
            try clear c14
            try clear c15
            try clear c22
            try clear c23
            try clear c24
            try clear c25
            try clear c26
            try clear c27
            try clear c30
            try clear c31
            try clear c32
            try clear c33
            try clear c39
            try clear c40
            try clear c41
            try clear c45
            try clear c46
            try clear c47
            try clear c48
            try clear c50
            try clear c51
            try clear c54
            try clear c55
            try clear c56
            try clear c58
            try clear c59
            try clear c62
            try clear c65
            try clear c73
            try clear c74
            try clear c75
            try clear c78
            try clear c78b0
            try clear c80
            try clear c81
            try clear c82
            try clear c83
            try clear c85
            try clear c86
            try clear c89
            try clear c90
            try clear c91
            try clear c93
            try clear c94
            try clear c97
            try clear c100
            try clear c100b0
            try clear c101
            try clear c102
            try clear c103
            try clear c108
            try clear c108b0
            try clear c108b1
            try clear c112
            try clear c113
            try clear c114
            try clear c119
            try clear c120
            try clear c128
            try clear c129
            try clear c130
            try clear c131
            try clear c135
            try clear c136
            try clear c137
            try clear c138
            try clear c139
            try clear c141
            try clear c142
            try clear c143
            try clear c146
            try clear c147
            try clear c148
            try clear c149
            try clear c151
            try clear c152
            try clear c153
            try clear hcz104_0
            try clear hcz104_1
            try clear hcz106_0
            try clear hcz106_1
            try clear hcz115_0
            try clear hcz115_1
            try clear hcz117_0
            try clear hcz117_1
            try clear hcz121_0
            try clear hcz121_1
            try clear hcz132_0
            try clear hcz132_1
            try clear hcz140_0
            try clear hcz140_1
            try clear hcz144_0
            try clear hcz144_1
            try clear hcz150_0
            try clear hcz150_1
            try clear hcz154_0
            try clear hcz154_1
            try clear hcz16_0
            try clear hcz16_1
            try clear hcz18_0
            try clear hcz18_1
            try clear hcz26_0
            try clear hcz26_1
            try clear hcz28_0
            try clear hcz28_1
            try clear hcz34_0
            try clear hcz34_1
            try clear hcz42_0
            try clear hcz42_1
            try clear hcz49_0
            try clear hcz49_1
            try clear hcz52_0
            try clear hcz52_1
            try clear hcz57_0
            try clear hcz57_1
            try clear hcz60_0
            try clear hcz60_1
            try clear hcz76_0
            try clear hcz76_1
            try clear hcz84_0
            try clear hcz84_1
            try clear hcz87_0
            try clear hcz87_1
            try clear hcz8_0
            try clear hcz8_1
            try clear hcz92_0
            try clear hcz92_1
            try clear hcz95_0
            try clear hcz95_1
            try clear hfz104_0
            try clear hfz104_1
            try clear hfz106_0
            try clear hfz106_1
            try clear hfz115_0
            try clear hfz115_1
            try clear hfz117_0
            try clear hfz117_1
            try clear hfz121_0
            try clear hfz121_1
            try clear hfz132_0
            try clear hfz132_1
            try clear hfz140_0
            try clear hfz140_1
            try clear hfz144_0
            try clear hfz144_1
            try clear hfz150_0
            try clear hfz150_1
            try clear hfz154_0
            try clear hfz154_1
            try clear hfz16_0
            try clear hfz16_1
            try clear hfz18_0
            try clear hfz18_1
            try clear hfz26_0
            try clear hfz26_1
            try clear hfz28_0
            try clear hfz28_1
            try clear hfz34_0
            try clear hfz34_1
            try clear hfz42_0
            try clear hfz42_1
            try clear hfz49_0
            try clear hfz49_1
            try clear hfz52_0
            try clear hfz52_1
            try clear hfz57_0
            try clear hfz57_1
            try clear hfz60_0
            try clear hfz60_1
            try clear hfz76_0
            try clear hfz76_1
            try clear hfz84_0
            try clear hfz84_1
            try clear hfz87_0
            try clear hfz87_1
            try clear hfz8_0
            try clear hfz8_1
            try clear hfz92_0
            try clear hfz92_1
            try clear hfz95_0
            try clear hfz95_1
            try clear p2
            obtain ⟨kq, x102_110, rfl, HA, HJ110, HO_194000, HO_194001, HO_201000, HO_201001, HO_209000, HO_209001, HO_239000, HO_239001, BK178, BK193, BK200, BK208, BK238, HB⟩ := hcut
            have hl209000_110 := (qR HO_209000.out).1
            rw [hl209000_110] at HO_209000
            (try simp only [hl209000_110])
            (try simp only [hl209000_110] at BK178)
            (try simp only [hl209000_110] at BK193)
            (try simp only [hl209000_110] at BK200)
            (try simp only [hl209000_110] at BK208)
            (try simp only [hl209000_110] at BK238)
            (try simp only [hl209000_110] at HO_194000)
            (try simp only [hl209000_110] at HO_194001)
            (try simp only [hl209000_110] at HO_201000)
            (try simp only [hl209000_110] at HO_201001)
            (try simp only [hl209000_110] at HO_209001)
            (try simp only [hl209000_110] at HO_239000)
            (try simp only [hl209000_110] at HO_239001)
            have hl209001_110 := (qR HO_209001.out).1
            rw [hl209001_110] at HO_209001
            (try simp only [hl209001_110])
            (try simp only [hl209001_110] at BK178)
            (try simp only [hl209001_110] at BK193)
            (try simp only [hl209001_110] at BK200)
            (try simp only [hl209001_110] at BK208)
            (try simp only [hl209001_110] at BK238)
            (try simp only [hl209001_110] at HO_194000)
            (try simp only [hl209001_110] at HO_194001)
            (try simp only [hl209001_110] at HO_201000)
            (try simp only [hl209001_110] at HO_201001)
            (try simp only [hl209001_110] at HO_209000)
            (try simp only [hl209001_110] at HO_239000)
            (try simp only [hl209001_110] at HO_239001)
            cases kq with
            | zero => exact absurd HA.out (by simp [laws_FnExactHrdHear.j2])
            | succ kj110 =>
             have H := HA.out
             clear HA
             simp only [laws_FnExactHrdHear.j2] at H
             by_cases c156 : x102_110 = true
             ·subst c156
              have H1 : (some false) = some r := by rw [if_pos rfl] at H; exact H
              clear H
              have H := H1
              clear H1
              obtain rfl := Option.some.inj H
              go_wp2
              go_ret
              exact ⟨by first | rfl | (simp [errW_none, errW_some] <;> rfl) | (simp [*, errW_none, errW_some] <;> rfl), by repeat (first | (with_reducible first | exact HB.out | apply yA | apply yN | apply yD | refine yS ?_ GE178.out | refine yS ?_ GE193.out | refine yS ?_ GE200.out | refine yS ?_ GE208.out | refine yS ?_ GE238.out) | exact HB.out)⟩
             ·replace c156 := Bool.eq_false_iff.mpr c156
              subst c156
              have H1 : ((laws_heldHrdBook.f kj110 t222 t223 1).bind fun t240 => (if t240 < 0 then (some false) else (if t240 = t221 then (some true) else (some false)))) = some r := by rw [if_neg (show ¬ (false = true) by decide)] at H; exact H
              clear H
              have H := H1
              clear H1
              replace H := Option.bind_eq_some_iff.mp H
              obtain ⟨t240, A1570, H⟩ := H
              replace H : (if t240 < 0 then (some false) else (if t240 = t221 then (some true) else (some false))) = some r := H
              have A157 := qM A1570
              clear A1570
              by_cases c158 : t240 < 0
              ·rw [if_pos c158] at H
               have c158b0 : decide (t240 < 0) = true := decide_eq_true c158
               clear c158
               obtain rfl := Option.some.inj H
               have hnb159 := NB208_178.out
               have hnc159 := NB178_208.out
               have hnb160 := NB208_193.out
               have hnc160 := NB193_208.out
               have hnb161 := NB208_200.out
               have hnc161 := NB200_208.out
               have hnb162 := NB208_238.out
               have hnc162 := NB238_208.out
               have hcz163_0 : wc.cell? ⟨gb208, 0, none⟩ = some (.slice Ao38 t222.length co38) := (zC BK208.out 0).trans rfl
               have hcz163_1 : wc.cell? ⟨gb208, 1, none⟩ = some (.slice Ao43 t223.length co43) := (zC BK208.out 1).trans rfl
               have hfz163_0 := zF BK208.out 0
               have hfz163_1 := zF BK208.out 1
               go_wp2_with (first | ((with_reducible refine gate_callee (f := 24) rfl ?_); refine goesL_ (some 105) rfl rfl Try.func24 (by kernel_rfl) rfl #[.agg #[.slice Ao38 t222.length co38, .slice Ao43 t223.length co43], .int .i64 1] rfl (by (try simp only [List.map_toArray, List.map_cons, List.map_nil]); first | done | rfl | (simp only [List.length_drop, List.length_take]; rfl)) ?_; (with_reducible refine (laws_heldHrdBook.calls kj110 _ _ t222 _ _ t223 1 t240 _ ?side1 ?side2 ?side3 ?side4 A157.out).mono ?_); (case side1 => repeat (first | exact (qR HO_209000.out).2.2 | (with_reducible refine Kd.C_alloc ?_ _) | (with_reducible refine Kd.C_drewN ?_ _) | (with_reducible refine Kd.C_drew ?_))); (case side2 => exact (qR HO_209000.out).2.1); (case side3 => repeat (first | exact (qR HO_209001.out).2.2 | (with_reducible refine Kd.C_alloc ?_ _) | (with_reducible refine Kd.C_drewN ?_ _) | (with_reducible refine Kd.C_drew ?_))); (case side4 => exact (qR HO_209001.out).2.1); rintro e w164 ⟨rfl, hb⟩; refine ⟨_, rfl, ?_⟩; have n0_ := qM (Kd.R_below (by (with_reducible repeat (first | apply qA | apply qN | apply qD)); exact HO_194000.out) hb); have n1_ := qM (Kd.R_below (by (with_reducible repeat (first | apply qA | apply qN | apply qD)); exact HO_194001.out) hb); have n2_ := qM (Kd.R_below (by (with_reducible repeat (first | apply qA | apply qN | apply qD)); exact HO_201000.out) hb); have n3_ := qM (Kd.R_below (by (with_reducible repeat (first | apply qA | apply qN | apply qD)); exact HO_201001.out) hb); have n4_ := qM (Kd.R_below (by (with_reducible repeat (first | apply qA | apply qN | apply qD)); exact HO_209000.out) hb); have n5_ := qM (Kd.R_below (by (with_reducible repeat (first | apply qA | apply qN | apply qD)); exact HO_209001.out) hb); have n6_ := qM (Kd.R_below (by (with_reducible repeat (first | apply qA | apply qN | apply qD)); exact HO_239000.out) hb); have n7_ := qM (Kd.R_below (by (with_reducible repeat (first | apply qA | apply qN | apply qD)); exact HO_239001.out) hb); have n8_ := qM (blk_below (g := gb178) (o := .cells #[.slice A0_0 l0_0.length c0_0, .slice A0_1 l0_1.length c0_1] 48 (0, 0)) (by (with_reducible repeat (first | refine zN ?_ _ | refine zD ?_ | refine zA ?_ _)); exact BK178.out) hb); have n9_ := qM (blk_below (g := gb193) (o := .cells #[.slice Ao24 t186.length co24, .slice Ao27 t189.length co27] 37 (0, 0)) (by (with_reducible repeat (first | refine zN ?_ _ | refine zD ?_ | refine zA ?_ _)); exact BK193.out) hb); have n10_ := qM (blk_below (g := gb200) (o := .cells #[.slice Ao31 t218.length co31, .slice Ao35 t219.length co35] 37 (0, 0)) (by (with_reducible repeat (first | refine zN ?_ _ | refine zD ?_ | refine zA ?_ _)); exact BK200.out) hb); have n11_ := qM (blk_below (g := gb208) (o := .cells #[.slice Ao38 t222.length co38, .slice Ao43 t223.length co43] 37 (0, 0)) (by (with_reducible repeat (first | refine zN ?_ _ | refine zD ?_ | refine zA ?_ _)); exact BK208.out) hb); have n12_ := qM (blk_below (g := gb238) (o := .cells #[.slice Ao127 t231.length co127, .slice Ao133 t234.length co133] 37 (0, 0)) (by (with_reducible repeat (first | refine zN ?_ _ | refine zD ?_ | refine zA ?_ _)); exact BK238.out) hb); have n13_ := qM (below_step (by repeat (first | (with_reducible first | exact HB.out | apply yA | apply yN | apply yD | refine yS ?_ GE178.out | refine yS ?_ GE193.out | refine yS ?_ GE200.out | refine yS ?_ GE208.out | refine yS ?_ GE238.out) | exact HB.out)) hb); clear HO_194000; clear HO_194001; clear HO_201000; clear HO_201001; clear HO_209000; clear HO_209001; clear HO_239000; clear HO_239001; clear BK178; clear BK193; clear BK200; clear BK208; clear BK238; clear HB; have HO_194000 := n0_; have HO_194001 := n1_; have HO_201000 := n2_; have HO_201001 := n3_; have HO_209000 := n4_; have HO_209001 := n5_; have HO_239000 := n6_; have HO_239001 := n7_; have BK178 := n8_; have BK193 := n9_; have BK200 := n10_; have BK208 := n11_; have BK238 := n12_; have HB := n13_; clear n0_ n1_ n2_ n3_ n4_ n5_ n6_ n7_ n8_ n9_ n10_ n11_ n12_ n13_; (try clear hb); (try clear hb2); (try clear hk); (try clear hi)))
               go_ret
               exact ⟨by first | rfl | (simp [errW_none, errW_some] <;> rfl) | (simp [*, errW_none, errW_some] <;> rfl), by repeat (first | (with_reducible first | exact HB.out | apply yA | apply yN | apply yD | refine yS ?_ GE178.out | refine yS ?_ GE193.out | refine yS ?_ GE200.out | refine yS ?_ GE208.out | refine yS ?_ GE238.out) | exact HB.out)⟩
              ·rw [if_neg c158] at H
               have c158b0 : decide (t240 < 0) = false := decide_eq_false c158
               clear c158
               by_cases c165 : t240 = t221
               ·rw [if_pos c165] at H
                have c165b0 : (t240 == t221) = true := beq_iff_eq.mpr c165
                have c165b1 : (t240 != t221) = false := bne_eq_false_iff_eq.mpr c165
                clear c165
                obtain rfl := Option.some.inj H
                have hnb166 := NB208_178.out
                have hnc166 := NB178_208.out
                have hnb167 := NB208_193.out
                have hnc167 := NB193_208.out
                have hnb168 := NB208_200.out
                have hnc168 := NB200_208.out
                have hnb169 := NB208_238.out
                have hnc169 := NB238_208.out
                have hcz170_0 : wc.cell? ⟨gb208, 0, none⟩ = some (.slice Ao38 t222.length co38) := (zC BK208.out 0).trans rfl
                have hcz170_1 : wc.cell? ⟨gb208, 1, none⟩ = some (.slice Ao43 t223.length co43) := (zC BK208.out 1).trans rfl
                have hfz170_0 := zF BK208.out 0
                have hfz170_1 := zF BK208.out 1
                go_wp2_with (first | ((with_reducible refine gate_callee (f := 24) rfl ?_); refine goesL_ (some 105) rfl rfl Try.func24 (by kernel_rfl) rfl #[.agg #[.slice Ao38 t222.length co38, .slice Ao43 t223.length co43], .int .i64 1] rfl (by (try simp only [List.map_toArray, List.map_cons, List.map_nil]); first | done | rfl | (simp only [List.length_drop, List.length_take]; rfl)) ?_; (with_reducible refine (laws_heldHrdBook.calls kj110 _ _ t222 _ _ t223 1 t240 _ ?side1 ?side2 ?side3 ?side4 A157.out).mono ?_); (case side1 => repeat (first | exact (qR HO_209000.out).2.2 | (with_reducible refine Kd.C_alloc ?_ _) | (with_reducible refine Kd.C_drewN ?_ _) | (with_reducible refine Kd.C_drew ?_))); (case side2 => exact (qR HO_209000.out).2.1); (case side3 => repeat (first | exact (qR HO_209001.out).2.2 | (with_reducible refine Kd.C_alloc ?_ _) | (with_reducible refine Kd.C_drewN ?_ _) | (with_reducible refine Kd.C_drew ?_))); (case side4 => exact (qR HO_209001.out).2.1); rintro e w171 ⟨rfl, hb⟩; refine ⟨_, rfl, ?_⟩; have n0_ := qM (Kd.R_below (by (with_reducible repeat (first | apply qA | apply qN | apply qD)); exact HO_194000.out) hb); have n1_ := qM (Kd.R_below (by (with_reducible repeat (first | apply qA | apply qN | apply qD)); exact HO_194001.out) hb); have n2_ := qM (Kd.R_below (by (with_reducible repeat (first | apply qA | apply qN | apply qD)); exact HO_201000.out) hb); have n3_ := qM (Kd.R_below (by (with_reducible repeat (first | apply qA | apply qN | apply qD)); exact HO_201001.out) hb); have n4_ := qM (Kd.R_below (by (with_reducible repeat (first | apply qA | apply qN | apply qD)); exact HO_209000.out) hb); have n5_ := qM (Kd.R_below (by (with_reducible repeat (first | apply qA | apply qN | apply qD)); exact HO_209001.out) hb); have n6_ := qM (Kd.R_below (by (with_reducible repeat (first | apply qA | apply qN | apply qD)); exact HO_239000.out) hb); have n7_ := qM (Kd.R_below (by (with_reducible repeat (first | apply qA | apply qN | apply qD)); exact HO_239001.out) hb); have n8_ := qM (blk_below (g := gb178) (o := .cells #[.slice A0_0 l0_0.length c0_0, .slice A0_1 l0_1.length c0_1] 48 (0, 0)) (by (with_reducible repeat (first | refine zN ?_ _ | refine zD ?_ | refine zA ?_ _)); exact BK178.out) hb); have n9_ := qM (blk_below (g := gb193) (o := .cells #[.slice Ao24 t186.length co24, .slice Ao27 t189.length co27] 37 (0, 0)) (by (with_reducible repeat (first | refine zN ?_ _ | refine zD ?_ | refine zA ?_ _)); exact BK193.out) hb); have n10_ := qM (blk_below (g := gb200) (o := .cells #[.slice Ao31 t218.length co31, .slice Ao35 t219.length co35] 37 (0, 0)) (by (with_reducible repeat (first | refine zN ?_ _ | refine zD ?_ | refine zA ?_ _)); exact BK200.out) hb); have n11_ := qM (blk_below (g := gb208) (o := .cells #[.slice Ao38 t222.length co38, .slice Ao43 t223.length co43] 37 (0, 0)) (by (with_reducible repeat (first | refine zN ?_ _ | refine zD ?_ | refine zA ?_ _)); exact BK208.out) hb); have n12_ := qM (blk_below (g := gb238) (o := .cells #[.slice Ao127 t231.length co127, .slice Ao133 t234.length co133] 37 (0, 0)) (by (with_reducible repeat (first | refine zN ?_ _ | refine zD ?_ | refine zA ?_ _)); exact BK238.out) hb); have n13_ := qM (below_step (by repeat (first | (with_reducible first | exact HB.out | apply yA | apply yN | apply yD | refine yS ?_ GE178.out | refine yS ?_ GE193.out | refine yS ?_ GE200.out | refine yS ?_ GE208.out | refine yS ?_ GE238.out) | exact HB.out)) hb); clear HO_194000; clear HO_194001; clear HO_201000; clear HO_201001; clear HO_209000; clear HO_209001; clear HO_239000; clear HO_239001; clear BK178; clear BK193; clear BK200; clear BK208; clear BK238; clear HB; have HO_194000 := n0_; have HO_194001 := n1_; have HO_201000 := n2_; have HO_201001 := n3_; have HO_209000 := n4_; have HO_209001 := n5_; have HO_239000 := n6_; have HO_239001 := n7_; have BK178 := n8_; have BK193 := n9_; have BK200 := n10_; have BK208 := n11_; have BK238 := n12_; have HB := n13_; clear n0_ n1_ n2_ n3_ n4_ n5_ n6_ n7_ n8_ n9_ n10_ n11_ n12_ n13_; (try clear hb); (try clear hb2); (try clear hk); (try clear hi)))
                go_ret
                exact ⟨by first | rfl | (simp [errW_none, errW_some] <;> rfl) | (simp [*, errW_none, errW_some] <;> rfl), by repeat (first | (with_reducible first | exact HB.out | apply yA | apply yN | apply yD | refine yS ?_ GE178.out | refine yS ?_ GE193.out | refine yS ?_ GE200.out | refine yS ?_ GE208.out | refine yS ?_ GE238.out) | exact HB.out)⟩
               ·rw [if_neg c165] at H
                have c165b0 : (t240 == t221) = false := beq_eq_false_iff_ne.mpr c165
                have c165b1 : (t240 != t221) = true := bne_iff_ne.mpr c165
                obtain rfl := Option.some.inj H
                have hnb172 := NB208_178.out
                have hnc172 := NB178_208.out
                have hnb173 := NB208_193.out
                have hnc173 := NB193_208.out
                have hnb174 := NB208_200.out
                have hnc174 := NB200_208.out
                have hnb175 := NB208_238.out
                have hnc175 := NB238_208.out
                have hcz176_0 : wc.cell? ⟨gb208, 0, none⟩ = some (.slice Ao38 t222.length co38) := (zC BK208.out 0).trans rfl
                have hcz176_1 : wc.cell? ⟨gb208, 1, none⟩ = some (.slice Ao43 t223.length co43) := (zC BK208.out 1).trans rfl
                have hfz176_0 := zF BK208.out 0
                have hfz176_1 := zF BK208.out 1
                go_wp2_with (first | ((with_reducible refine gate_callee (f := 24) rfl ?_); refine goesL_ (some 105) rfl rfl Try.func24 (by kernel_rfl) rfl #[.agg #[.slice Ao38 t222.length co38, .slice Ao43 t223.length co43], .int .i64 1] rfl (by (try simp only [List.map_toArray, List.map_cons, List.map_nil]); first | done | rfl | (simp only [List.length_drop, List.length_take]; rfl)) ?_; (with_reducible refine (laws_heldHrdBook.calls kj110 _ _ t222 _ _ t223 1 t240 _ ?side1 ?side2 ?side3 ?side4 A157.out).mono ?_); (case side1 => repeat (first | exact (qR HO_209000.out).2.2 | (with_reducible refine Kd.C_alloc ?_ _) | (with_reducible refine Kd.C_drewN ?_ _) | (with_reducible refine Kd.C_drew ?_))); (case side2 => exact (qR HO_209000.out).2.1); (case side3 => repeat (first | exact (qR HO_209001.out).2.2 | (with_reducible refine Kd.C_alloc ?_ _) | (with_reducible refine Kd.C_drewN ?_ _) | (with_reducible refine Kd.C_drew ?_))); (case side4 => exact (qR HO_209001.out).2.1); rintro e w177 ⟨rfl, hb⟩; refine ⟨_, rfl, ?_⟩; have n0_ := qM (Kd.R_below (by (with_reducible repeat (first | apply qA | apply qN | apply qD)); exact HO_194000.out) hb); have n1_ := qM (Kd.R_below (by (with_reducible repeat (first | apply qA | apply qN | apply qD)); exact HO_194001.out) hb); have n2_ := qM (Kd.R_below (by (with_reducible repeat (first | apply qA | apply qN | apply qD)); exact HO_201000.out) hb); have n3_ := qM (Kd.R_below (by (with_reducible repeat (first | apply qA | apply qN | apply qD)); exact HO_201001.out) hb); have n4_ := qM (Kd.R_below (by (with_reducible repeat (first | apply qA | apply qN | apply qD)); exact HO_209000.out) hb); have n5_ := qM (Kd.R_below (by (with_reducible repeat (first | apply qA | apply qN | apply qD)); exact HO_209001.out) hb); have n6_ := qM (Kd.R_below (by (with_reducible repeat (first | apply qA | apply qN | apply qD)); exact HO_239000.out) hb); have n7_ := qM (Kd.R_below (by (with_reducible repeat (first | apply qA | apply qN | apply qD)); exact HO_239001.out) hb); have n8_ := qM (blk_below (g := gb178) (o := .cells #[.slice A0_0 l0_0.length c0_0, .slice A0_1 l0_1.length c0_1] 48 (0, 0)) (by (with_reducible repeat (first | refine zN ?_ _ | refine zD ?_ | refine zA ?_ _)); exact BK178.out) hb); have n9_ := qM (blk_below (g := gb193) (o := .cells #[.slice Ao24 t186.length co24, .slice Ao27 t189.length co27] 37 (0, 0)) (by (with_reducible repeat (first | refine zN ?_ _ | refine zD ?_ | refine zA ?_ _)); exact BK193.out) hb); have n10_ := qM (blk_below (g := gb200) (o := .cells #[.slice Ao31 t218.length co31, .slice Ao35 t219.length co35] 37 (0, 0)) (by (with_reducible repeat (first | refine zN ?_ _ | refine zD ?_ | refine zA ?_ _)); exact BK200.out) hb); have n11_ := qM (blk_below (g := gb208) (o := .cells #[.slice Ao38 t222.length co38, .slice Ao43 t223.length co43] 37 (0, 0)) (by (with_reducible repeat (first | refine zN ?_ _ | refine zD ?_ | refine zA ?_ _)); exact BK208.out) hb); have n12_ := qM (blk_below (g := gb238) (o := .cells #[.slice Ao127 t231.length co127, .slice Ao133 t234.length co133] 37 (0, 0)) (by (with_reducible repeat (first | refine zN ?_ _ | refine zD ?_ | refine zA ?_ _)); exact BK238.out) hb); have n13_ := qM (below_step (by repeat (first | (with_reducible first | exact HB.out | apply yA | apply yN | apply yD | refine yS ?_ GE178.out | refine yS ?_ GE193.out | refine yS ?_ GE200.out | refine yS ?_ GE208.out | refine yS ?_ GE238.out) | exact HB.out)) hb); clear HO_194000; clear HO_194001; clear HO_201000; clear HO_201001; clear HO_209000; clear HO_209001; clear HO_239000; clear HO_239001; clear BK178; clear BK193; clear BK200; clear BK208; clear BK238; clear HB; have HO_194000 := n0_; have HO_194001 := n1_; have HO_201000 := n2_; have HO_201001 := n3_; have HO_209000 := n4_; have HO_209001 := n5_; have HO_239000 := n6_; have HO_239001 := n7_; have BK178 := n8_; have BK193 := n9_; have BK200 := n10_; have BK208 := n11_; have BK238 := n12_; have HB := n13_; clear n0_ n1_ n2_ n3_ n4_ n5_ n6_ n7_ n8_ n9_ n10_ n11_ n12_ n13_; (try clear hb); (try clear hb2); (try clear hk); (try clear hi)))
                go_ret
                exact ⟨by first | rfl | (simp [errW_none, errW_some] <;> rfl) | (simp [*, errW_none, errW_some] <;> rfl), by repeat (first | (with_reducible first | exact HB.out | apply yA | apply yN | apply yD | refine yS ?_ GE178.out | refine yS ?_ GE193.out | refine yS ?_ GE200.out | refine yS ?_ GE208.out | refine yS ?_ GE238.out) | exact HB.out)⟩
          ·rw [if_neg c108] at H
           have c108b0 : (t224 == t221) = false := beq_eq_false_iff_ne.mpr c108
           have c108b1 : (t224 != t221) = true := bne_iff_ne.mpr c108
           obtain rfl := Option.some.inj H
           have hnb178 := NB208_178.out
           have hnc178 := NB178_208.out
           have hnb179 := NB208_193.out
           have hnc179 := NB193_208.out
           have hnb180 := NB208_200.out
           have hnc180 := NB200_208.out
           have hcz181_0 : wc.cell? ⟨gb208, 0, none⟩ = some (.slice Ao38 t201.length co38) := (zC BK208.out 0).trans rfl
           have hcz181_1 : wc.cell? ⟨gb208, 1, none⟩ = some (.slice Ao43 t204.length co43) := (zC BK208.out 1).trans rfl
           have hfz181_0 := zF BK208.out 0
           have hfz181_1 := zF BK208.out 1
           go_wp2_with (first | ((with_reducible refine gate_callee (f := 23) rfl ?_); refine goesL_ (some 76) rfl rfl Try.func23 (by kernel_rfl) rfl #[.agg #[.slice Ao38 t201.length co38, .slice Ao43 t204.length co43], .int .i64 1] rfl (by (try simp only [List.map_toArray, List.map_cons, List.map_nil]); first | done | rfl | (simp only [List.length_drop, List.length_take]; rfl)) ?_; (with_reducible refine (laws_markHrdBook.calls kj66 (fun k_ => some k_ = (.slice Ao38 t201.length co38 : Value).ownBlock) (.slice Ao38 t201.length co38) t201 (fun k_ => some k_ = (.slice Ao43 t204.length co43 : Value).ownBlock) (.slice Ao43 t204.length co43) t204 1 t221 t222 t223 w _ ?side1 ?side2 ?side3 ?side4 ?side5 A98.out).mono ?_); (case side1 => repeat (first | (with_reducible first | exact HB.out | apply yA | apply yN | apply yD | refine yS ?_ GE178.out | refine yS ?_ GE193.out | refine yS ?_ GE200.out | refine yS ?_ GE208.out) | exact HB.out)); (case side2 => exact Kd.R_tight rfl HO_209000.out); (case side3 => exact fun k_ e_ => (HO_209000.out.1 k_ e_.symm).2.2.2.2); (case side4 => exact Kd.R_tight rfl HO_209001.out); (case side5 => exact fun k_ e_ => (HO_209001.out.1 k_ e_.symm).2.2.2.2); rintro e w182 ⟨rfl, hy0, hy1, hb, hkp⟩; refine ⟨_, rfl, ?_⟩; have n0_ := qM (Kd.R_mono (ok' := fun k_ => some k_ ≠ (.slice Ao27 t189.length co27 : Value).ownBlock ∧ some k_ ≠ (.slice Ao31 t218.length co31 : Value).ownBlock ∧ some k_ ≠ (.slice Ao35 t219.length co35 : Value).ownBlock ∧ some k_ ≠ (.slice Ao38 t201.length co38 : Value).ownBlock ∧ some k_ ≠ (.slice Ao43 t204.length co43 : Value).ownBlock) (Kd.R_keptB (HO_194000.out) hkp (fun k_ hk_ hs_ => Or.elim hs_ (fun e_ => (hk_.2.2.2.1) e_) (fun e_ => (hk_.2.2.2.2) e_))) (fun k_ hk_ => ⟨hk_.1.1, hk_.1.2.1, hk_.1.2.2.1, hk_.1.2.2.2.1, hk_.1.2.2.2.2⟩)); have n1_ := qM (Kd.R_mono (ok' := fun k_ => some k_ ≠ (.slice Ao24 t186.length co24 : Value).ownBlock ∧ some k_ ≠ (.slice Ao31 t218.length co31 : Value).ownBlock ∧ some k_ ≠ (.slice Ao35 t219.length co35 : Value).ownBlock ∧ some k_ ≠ (.slice Ao38 t201.length co38 : Value).ownBlock ∧ some k_ ≠ (.slice Ao43 t204.length co43 : Value).ownBlock) (Kd.R_keptB (HO_194001.out) hkp (fun k_ hk_ hs_ => Or.elim hs_ (fun e_ => (hk_.2.2.2.1) e_) (fun e_ => (hk_.2.2.2.2) e_))) (fun k_ hk_ => ⟨hk_.1.1, hk_.1.2.1, hk_.1.2.2.1, hk_.1.2.2.2.1, hk_.1.2.2.2.2⟩)); have n2_ := qM (Kd.R_mono (ok' := fun k_ => some k_ ≠ (.slice Ao24 t186.length co24 : Value).ownBlock ∧ some k_ ≠ (.slice Ao27 t189.length co27 : Value).ownBlock ∧ some k_ ≠ (.slice Ao35 t219.length co35 : Value).ownBlock ∧ some k_ ≠ (.slice Ao38 t201.length co38 : Value).ownBlock ∧ some k_ ≠ (.slice Ao43 t204.length co43 : Value).ownBlock) (Kd.R_keptB (HO_201000.out) hkp (fun k_ hk_ hs_ => Or.elim hs_ (fun e_ => (hk_.2.2.2.1) e_) (fun e_ => (hk_.2.2.2.2) e_))) (fun k_ hk_ => ⟨hk_.1.1, hk_.1.2.1, hk_.1.2.2.1, hk_.1.2.2.2.1, hk_.1.2.2.2.2⟩)); have n3_ := qM (Kd.R_mono (ok' := fun k_ => some k_ ≠ (.slice Ao24 t186.length co24 : Value).ownBlock ∧ some k_ ≠ (.slice Ao27 t189.length co27 : Value).ownBlock ∧ some k_ ≠ (.slice Ao31 t218.length co31 : Value).ownBlock ∧ some k_ ≠ (.slice Ao38 t201.length co38 : Value).ownBlock ∧ some k_ ≠ (.slice Ao43 t204.length co43 : Value).ownBlock) (Kd.R_keptB (HO_201001.out) hkp (fun k_ hk_ hs_ => Or.elim hs_ (fun e_ => (hk_.2.2.2.1) e_) (fun e_ => (hk_.2.2.2.2) e_))) (fun k_ hk_ => ⟨hk_.1.1, hk_.1.2.1, hk_.1.2.2.1, hk_.1.2.2.2.1, hk_.1.2.2.2.2⟩)); have n4_ := qM (Kd.R_reok rfl hy0 (fun k_ e_ => HO_209000.out.1 k_ e_)); have n5_ := qM (Kd.R_reok rfl hy1 (fun k_ e_ => HO_209001.out.1 k_ e_)); have n6_ := qM (blk_kept (by (with_reducible repeat (first | refine zN ?_ _ | refine zD ?_ | refine zA ?_ _)); exact BK178.out) hkp (fun hs_ => Or.elim hs_ (fun e_ => (fun e_ => (Kd.R_ne HO_209000.out BK178.out (by decide)) e_) e_) (fun e_ => (fun e_ => (Kd.R_ne HO_209001.out BK178.out (by decide)) e_) e_))); have n7_ := qM (blk_kept (by (with_reducible repeat (first | refine zN ?_ _ | refine zD ?_ | refine zA ?_ _)); exact BK193.out) hkp (fun hs_ => Or.elim hs_ (fun e_ => (fun e_ => (Kd.R_ne HO_209000.out BK193.out (by decide)) e_) e_) (fun e_ => (fun e_ => (Kd.R_ne HO_209001.out BK193.out (by decide)) e_) e_))); have n8_ := qM (blk_kept (by (with_reducible repeat (first | refine zN ?_ _ | refine zD ?_ | refine zA ?_ _)); exact BK200.out) hkp (fun hs_ => Or.elim hs_ (fun e_ => (fun e_ => (Kd.R_ne HO_209000.out BK200.out (by decide)) e_) e_) (fun e_ => (fun e_ => (Kd.R_ne HO_209001.out BK200.out (by decide)) e_) e_))); have n9_ := qM (blk_kept (by (with_reducible repeat (first | refine zN ?_ _ | refine zD ?_ | refine zA ?_ _)); exact BK208.out) hkp (fun hs_ => Or.elim hs_ (fun e_ => (fun e_ => (Kd.R_ne HO_209000.out BK208.out (by decide)) e_) e_) (fun e_ => (fun e_ => (Kd.R_ne HO_209001.out BK208.out (by decide)) e_) e_))); have n10_ := qM (hb); clear HO_194000; clear HO_194001; clear HO_201000; clear HO_201001; clear HO_209000; clear HO_209001; clear BK178; clear BK193; clear BK200; clear BK208; clear HB; have HO_194000 := n0_; have HO_194001 := n1_; have HO_201000 := n2_; have HO_201001 := n3_; have HO_209000 := n4_; have HO_209001 := n5_; have BK178 := n6_; have BK193 := n7_; have BK200 := n8_; have BK208 := n9_; have HB := n10_; clear n0_ n1_ n2_ n3_ n4_ n5_ n6_ n7_ n8_ n9_ n10_; (try clear hb); (try clear hkp); (try clear hy0); (try clear hy1); have hcz183_0 : w182.cell? ⟨gb208, 0, none⟩ = some (.slice Ao38 t201.length co38) := (zC BK208.out 0).trans rfl; have hcz183_1 : w182.cell? ⟨gb208, 1, none⟩ = some (.slice Ao43 t204.length co43) := (zC BK208.out 1).trans rfl; have hfz183_0 := zF BK208.out 0; have hfz183_1 := zF BK208.out 1) | ((with_reducible refine gate_callee (f := 24) rfl ?_); refine goesL_ (some 79) rfl rfl Try.func24 (by kernel_rfl) rfl #[.agg #[.slice Ao38 t222.length co38, .slice Ao43 t223.length co43], .int .i64 1] rfl (by (try simp only [List.map_toArray, List.map_cons, List.map_nil]); first | done | (rw [show t222.length = t201.length from (qR HO_209000.out).1.symm, show t223.length = t204.length from (qR HO_209001.out).1.symm] <;> rfl) | rfl | (simp only [List.length_drop, List.length_take]; rfl)) ?_; (with_reducible refine (laws_heldHrdBook.calls kj66 _ _ t222 _ _ t223 1 t224 _ ?side1 ?side2 ?side3 ?side4 A99.out).mono ?_); (case side1 => repeat (first | exact (qR HO_209000.out).2.2 | (with_reducible refine Kd.C_alloc ?_ _) | (with_reducible refine Kd.C_drewN ?_ _) | (with_reducible refine Kd.C_drew ?_))); (case side2 => rw [show t222.length = t201.length from (qR HO_209000.out).1.symm]; exact (qR HO_209000.out).2.1); (case side3 => repeat (first | exact (qR HO_209001.out).2.2 | (with_reducible refine Kd.C_alloc ?_ _) | (with_reducible refine Kd.C_drewN ?_ _) | (with_reducible refine Kd.C_drew ?_))); (case side4 => rw [show t223.length = t204.length from (qR HO_209001.out).1.symm]; exact (qR HO_209001.out).2.1); rintro e w184 ⟨rfl, hb⟩; refine ⟨_, rfl, ?_⟩; have n0_ := qM (Kd.R_below (by (with_reducible repeat (first | apply qA | apply qN | apply qD)); exact HO_194000.out) hb); have n1_ := qM (Kd.R_below (by (with_reducible repeat (first | apply qA | apply qN | apply qD)); exact HO_194001.out) hb); have n2_ := qM (Kd.R_below (by (with_reducible repeat (first | apply qA | apply qN | apply qD)); exact HO_201000.out) hb); have n3_ := qM (Kd.R_below (by (with_reducible repeat (first | apply qA | apply qN | apply qD)); exact HO_201001.out) hb); have n4_ := qM (Kd.R_below (by (with_reducible repeat (first | apply qA | apply qN | apply qD)); exact HO_209000.out) hb); have n5_ := qM (Kd.R_below (by (with_reducible repeat (first | apply qA | apply qN | apply qD)); exact HO_209001.out) hb); have n6_ := qM (blk_below (g := gb178) (o := .cells #[.slice A0_0 l0_0.length c0_0, .slice A0_1 l0_1.length c0_1] 48 (0, 0)) (by (with_reducible repeat (first | refine zN ?_ _ | refine zD ?_ | refine zA ?_ _)); exact BK178.out) hb); have n7_ := qM (blk_below (g := gb193) (o := .cells #[.slice Ao24 t186.length co24, .slice Ao27 t189.length co27] 37 (0, 0)) (by (with_reducible repeat (first | refine zN ?_ _ | refine zD ?_ | refine zA ?_ _)); exact BK193.out) hb); have n8_ := qM (blk_below (g := gb200) (o := .cells #[.slice Ao31 t218.length co31, .slice Ao35 t219.length co35] 37 (0, 0)) (by (with_reducible repeat (first | refine zN ?_ _ | refine zD ?_ | refine zA ?_ _)); exact BK200.out) hb); have n9_ := qM (blk_below (g := gb208) (o := .cells #[.slice Ao38 t201.length co38, .slice Ao43 t204.length co43] 37 (0, 0)) (by (with_reducible repeat (first | refine zN ?_ _ | refine zD ?_ | refine zA ?_ _)); exact BK208.out) hb); have n10_ := qM (below_step (by repeat (first | (with_reducible first | exact HB.out | apply yA | apply yN | apply yD | refine yS ?_ GE178.out | refine yS ?_ GE193.out | refine yS ?_ GE200.out | refine yS ?_ GE208.out) | exact HB.out)) hb); clear HO_194000; clear HO_194001; clear HO_201000; clear HO_201001; clear HO_209000; clear HO_209001; clear BK178; clear BK193; clear BK200; clear BK208; clear HB; have HO_194000 := n0_; have HO_194001 := n1_; have HO_201000 := n2_; have HO_201001 := n3_; have HO_209000 := n4_; have HO_209001 := n5_; have BK178 := n6_; have BK193 := n7_; have BK200 := n8_; have BK208 := n9_; have HB := n10_; clear n0_ n1_ n2_ n3_ n4_ n5_ n6_ n7_ n8_ n9_ n10_; (try clear hb); (try clear hb2); (try clear hk); (try clear hi)))
           go_ret
           exact ⟨by first | rfl | (simp [errW_none, errW_some] <;> rfl) | (simp [*, errW_none, errW_some] <;> rfl), by repeat (first | (with_reducible first | exact HB.out | apply yA | apply yN | apply yD | refine yS ?_ GE178.out | refine yS ?_ GE193.out | refine yS ?_ GE200.out | refine yS ?_ GE208.out) | exact HB.out)⟩
     ·replace c65 := Bool.eq_false_iff.mpr c65
      subst c65
      have H1 : (some false) = some r := by rw [if_neg (show ¬ (false = true) by decide)] at H; exact H
      clear H
      have H := H1
      clear H1
      obtain rfl := Option.some.inj H
      try go_wp2
      have n0_ := qM (qD HO_194000.out)
      have n1_ := qM (qD HO_194001.out)
      have n2_ := qM (qD HO_201000.out)
      have n3_ := qM (qD HO_201001.out)
      have n4_ := qM (qD HO_209000.out)
      have n5_ := qM (qD HO_209001.out)
      have n6_ := qM (zD BK178.out)
      have n7_ := qM (zD BK193.out)
      have n8_ := qM (zD BK200.out)
      have n9_ := qM (zD BK208.out)
      have n10_ := qM (yD HB.out)
      clear HO_194000
      clear HO_194001
      clear HO_201000
      clear HO_201001
      clear HO_209000
      clear HO_209001
      clear BK178
      clear BK193
      clear BK200
      clear BK208
      clear HB
      have HO_194000 := n0_
      have HO_194001 := n1_
      have HO_201000 := n2_
      have HO_201001 := n3_
      have HO_209000 := n4_
      have HO_209001 := n5_
      have BK178 := n6_
      have BK193 := n7_
      have BK200 := n8_
      have BK208 := n9_
      have HB := n10_
      clear n0_ n1_ n2_ n3_ n4_ n5_ n6_ n7_ n8_ n9_ n10_
      refine start_ (n := 5) (S := fun w' => w'.cell? ⟨gb200, 0, none⟩ = some (.slice Ao31 t194.length co31) ∧ w'.cell? ⟨gb200, 1, none⟩ = some (.slice Ao35 t197.length co35) ∧ w'.cell? ⟨gb178, 0, none⟩ = some (.slice A0_0 l0_0.length c0_0) ∧ w'.cell? ⟨gb178, 1, none⟩ = some (.slice A0_1 l0_1.length c0_1)) (ds := []) #[false, false, false, false, false] (by kernel_rfl) rfl rfl ⟨(zC BK200.out 0).trans rfl, (zC BK200.out 1).trans rfl, (zC BK178.out 0).trans rfl, (zC BK178.out 1).trans rfl⟩ (fun hHeld => ?_)
      generalize wc.drew = w185 at HO_194000 HO_194001 HO_201000 HO_201001 HO_209000 HO_209001 BK178 BK193 BK200 BK208 HB hHeld ⊢
      refine take_ (i := 0) (N := some 53) (v := ?_) (a' := ?_) #[true, false, false, false, false] rfl rfl (by kernel_rfl) (fun _ _ _ h => h) (Or.inl ⟨by rfl, ?_⟩) hHeld ?_ ?_
      rotate_left
      ·rintro w' ⟨s0, s1, s2, s3⟩
       go_simp
       with_reducible rfl
      rotate_left
      ·simp only [Act.put, List.setIfInBounds_toArray, List.set_cons_zero, List.set_cons_succ, i64_w, i32_w]
       rfl
      refine take_ (i := 1) (N := some 54) (v := ?_) (a' := ?_) #[true, true, false, false, false] rfl rfl (by kernel_rfl) (fun _ _ _ h => h) (Or.inl ⟨by rfl, ?_⟩) hHeld ?_ ?_
      rotate_left
      ·rintro w' ⟨s0, s1, s2, s3⟩
       go_simp
       with_reducible rfl
      rotate_left
      ·simp only [Act.put, List.setIfInBounds_toArray, List.set_cons_zero, List.set_cons_succ, i64_w, i32_w]
       rfl
      refine one_ (i := 2) (N := some 55) #[true, true, true, false, false] rfl rfl (by kernel_rfl) (by decide) (fun K hK => ?_)
      refine goes_ Try.func31 (by kernel_rfl) rfl #[.agg #[.slice A0_0 l0_0.length c0_0, .slice A0_1 l0_1.length c0_1]] (by rfl) rfl rfl (by (try simp only [List.map_toArray, List.map_cons, List.map_nil]); first | done | rfl | (simp only [List.length_drop, List.length_take]; rfl)) ?_
      with_reducible refine (laws_toHrdBook.calls kj13 _ _ l0_0 _ _ l0_1 t210 t213 _ ?side1 ?side2 ?side3 ?side4 A63.out).mono ?_
      (case side1 => repeat (first | exact (Kd.C_below HR0_0.out HB.out) | (with_reducible refine Kd.C_alloc ?_ _) | (with_reducible refine Kd.C_drewN ?_ _) | (with_reducible refine Kd.C_drew ?_)))
      (case side2 => exact HC0_0.out)
      (case side3 => repeat (first | exact (Kd.C_below HR0_1.out HB.out) | (with_reducible refine Kd.C_alloc ?_ _) | (with_reducible refine Kd.C_drewN ?_ _) | (with_reducible refine Kd.C_drew ?_)))
      (case side4 => exact HC0_1.out)
      rintro e w186 ⟨v211, v214, rfl, ho0, ho1, hb⟩
      refine ⟨_, rfl, ?_⟩
      have n0_ := qM (Kd.R_mono (Kd.R_told (Kd.R_told (Kd.R_old (by (with_reducible repeat (first | apply qA | apply qN | apply qD)); exact HO_194000.out) hb) (Kd.R_base ho0)) (Kd.R_base ho1)) (fun _ h_ => h_.1))
      have n1_ := qM (Kd.R_mono (Kd.R_told (Kd.R_told (Kd.R_old (by (with_reducible repeat (first | apply qA | apply qN | apply qD)); exact HO_194001.out) hb) (Kd.R_base ho0)) (Kd.R_base ho1)) (fun _ h_ => h_.1))
      have n2_ := qM (Kd.R_mono (Kd.R_told (Kd.R_told (Kd.R_old (by (with_reducible repeat (first | apply qA | apply qN | apply qD)); exact HO_201000.out) hb) (Kd.R_base ho0)) (Kd.R_base ho1)) (fun _ h_ => h_.1))
      have n3_ := qM (Kd.R_mono (Kd.R_told (Kd.R_told (Kd.R_old (by (with_reducible repeat (first | apply qA | apply qN | apply qD)); exact HO_201001.out) hb) (Kd.R_base ho0)) (Kd.R_base ho1)) (fun _ h_ => h_.1))
      have n4_ := qM (Kd.R_mono (Kd.R_told (Kd.R_told (Kd.R_old (by (with_reducible repeat (first | apply qA | apply qN | apply qD)); exact HO_209000.out) hb) (Kd.R_base ho0)) (Kd.R_base ho1)) (fun _ h_ => h_.1))
      have n5_ := qM (Kd.R_mono (Kd.R_told (Kd.R_told (Kd.R_old (by (with_reducible repeat (first | apply qA | apply qN | apply qD)); exact HO_209001.out) hb) (Kd.R_base ho0)) (Kd.R_base ho1)) (fun _ h_ => h_.1))
      have n6_ := qM (Kd.R_lower (Kd.R_new' (Kd.R_new' (Kd.R_new' (Kd.R_new' (Kd.R_new' (Kd.R_new' ho0 (Kd.R_lt (by (with_reducible repeat (first | apply qA | apply qN | apply qD)); exact HO_194000.out))) (Kd.R_lt (by (with_reducible repeat (first | apply qA | apply qN | apply qD)); exact HO_194001.out))) (Kd.R_lt (by (with_reducible repeat (first | apply qA | apply qN | apply qD)); exact HO_201000.out))) (Kd.R_lt (by (with_reducible repeat (first | apply qA | apply qN | apply qD)); exact HO_201001.out))) (Kd.R_lt (by (with_reducible repeat (first | apply qA | apply qN | apply qD)); exact HO_209000.out))) (Kd.R_lt (by (with_reducible repeat (first | apply qA | apply qN | apply qD)); exact HO_209001.out))) (below_size (by repeat (first | (with_reducible first | exact HB.out | apply yA | apply yN | apply yD | refine yS ?_ GE178.out | refine yS ?_ GE193.out | refine yS ?_ GE200.out | refine yS ?_ GE208.out) | exact HB.out))))
      have n7_ := qM (Kd.R_lower (Kd.R_new' (Kd.R_new' (Kd.R_new' (Kd.R_new' (Kd.R_new' (Kd.R_new' ho1 (Kd.R_lt (by (with_reducible repeat (first | apply qA | apply qN | apply qD)); exact HO_194000.out))) (Kd.R_lt (by (with_reducible repeat (first | apply qA | apply qN | apply qD)); exact HO_194001.out))) (Kd.R_lt (by (with_reducible repeat (first | apply qA | apply qN | apply qD)); exact HO_201000.out))) (Kd.R_lt (by (with_reducible repeat (first | apply qA | apply qN | apply qD)); exact HO_201001.out))) (Kd.R_lt (by (with_reducible repeat (first | apply qA | apply qN | apply qD)); exact HO_209000.out))) (Kd.R_lt (by (with_reducible repeat (first | apply qA | apply qN | apply qD)); exact HO_209001.out))) (below_size (by repeat (first | (with_reducible first | exact HB.out | apply yA | apply yN | apply yD | refine yS ?_ GE178.out | refine yS ?_ GE193.out | refine yS ?_ GE200.out | refine yS ?_ GE208.out) | exact HB.out))))
      have n8_ := qM (blk_below (g := gb178) (o := .cells #[.slice A0_0 l0_0.length c0_0, .slice A0_1 l0_1.length c0_1] 48 (0, 0)) (by (with_reducible repeat (first | refine zN ?_ _ | refine zD ?_ | refine zA ?_ _)); exact BK178.out) hb)
      have n9_ := qM (blk_below (g := gb193) (o := .cells #[.slice Ao24 t186.length co24, .slice Ao27 t189.length co27] 37 (0, 0)) (by (with_reducible repeat (first | refine zN ?_ _ | refine zD ?_ | refine zA ?_ _)); exact BK193.out) hb)
      have n10_ := qM (blk_below (g := gb200) (o := .cells #[.slice Ao31 t194.length co31, .slice Ao35 t197.length co35] 37 (0, 0)) (by (with_reducible repeat (first | refine zN ?_ _ | refine zD ?_ | refine zA ?_ _)); exact BK200.out) hb)
      have n11_ := qM (blk_below (g := gb208) (o := .cells #[.slice Ao38 t201.length co38, .slice Ao43 t204.length co43] 37 (0, 0)) (by (with_reducible repeat (first | refine zN ?_ _ | refine zD ?_ | refine zA ?_ _)); exact BK208.out) hb)
      have n12_ := qM (below_step (by repeat (first | (with_reducible first | exact HB.out | apply yA | apply yN | apply yD | refine yS ?_ GE178.out | refine yS ?_ GE193.out | refine yS ?_ GE200.out | refine yS ?_ GE208.out) | exact HB.out)) hb)
      clear HO_194000
      clear HO_194001
      clear HO_201000
      clear HO_201001
      clear HO_209000
      clear HO_209001
      clear BK178
      clear BK193
      clear BK200
      clear BK208
      clear HB
      have HO_194000 := n0_
      have HO_194001 := n1_
      have HO_201000 := n2_
      have HO_201001 := n3_
      have HO_209000 := n4_
      have HO_209001 := n5_
      have HO212 := n6_
      have HO215 := n7_
      have BK178 := n8_
      have BK193 := n9_
      have BK200 := n10_
      have BK208 := n11_
      have HB := n12_
      clear n0_ n1_ n2_ n3_ n4_ n5_ n6_ n7_ n8_ n9_ n10_ n11_ n12_
      (try clear hb)
      (try clear hb2)
      (try clear hk)
      (try clear hi)
      (try clear ho0)
      (try clear ho1)
      obtain ⟨Ao187, co187, eo187⟩ := Kd.R_slice HO212.out
      (first | subst eo187 | (injection eo187 with f1_ f2_ f3_; have f4_ := f1_.symm; have f5_ := f3_.symm; clear f1_ f2_ f3_; subst f4_; subst f5_))
      obtain ⟨Ao188, co188, eo188⟩ := Kd.R_slice HO215.out
      (first | subst eo188 | (injection eo188 with f1_ f2_ f3_; have f4_ := f1_.symm; have f5_ := f3_.symm; clear f1_ f2_ f3_; subst f4_; subst f5_))
      refine hK.out _ _ ⟨(zC BK200.out 0).trans rfl, (zC BK200.out 1).trans rfl, (zC BK178.out 0).trans rfl, (zC BK178.out 1).trans rfl⟩ (fun hHeld => ?_)
      clear hK K
      refine norm_ (a' := ?_) ?_ ?_
      rotate_left
      ·show Act.put _ (some 55) _ = _
       simp only [Act.put, List.setIfInBounds_toArray, List.set_cons_zero, List.set_cons_succ, i64_w, i32_w]
       rfl
      refine one_ (i := 3) (N := some 56) #[true, true, true, true, false] rfl rfl (by kernel_rfl) (by decide) (fun K hK => ?_)
      refine goes_ Try.func22 (by kernel_rfl) rfl #[.agg #[.slice Ao31 t194.length co31, .slice Ao35 t197.length co35], .agg #[.slice Ao187 t210.length co187, .slice Ao188 t213.length co188]] (by rfl) rfl rfl (by (try simp only [List.map_toArray, List.map_cons, List.map_nil]); first | done | rfl | (simp only [List.length_drop, List.length_take]; rfl)) ?_
      with_reducible refine (laws_eqHrdBook.calls kj13 _ _ t194 _ _ t197 _ _ t210 _ _ t213 false _ ?side1 ?side2 ?side3 ?side4 ?side5 ?side6 ?side7 ?side8 A64.out).mono ?_
      (case side1 => repeat (first | exact (qR HO_201000.out).2.2 | (with_reducible refine Kd.C_alloc ?_ _) | (with_reducible refine Kd.C_drewN ?_ _) | (with_reducible refine Kd.C_drew ?_)))
      (case side2 => exact (qR HO_201000.out).2.1)
      (case side3 => repeat (first | exact (qR HO_201001.out).2.2 | (with_reducible refine Kd.C_alloc ?_ _) | (with_reducible refine Kd.C_drewN ?_ _) | (with_reducible refine Kd.C_drew ?_)))
      (case side4 => exact (qR HO_201001.out).2.1)
      (case side5 => repeat (first | exact (qR HO212.out).2.2 | (with_reducible refine Kd.C_alloc ?_ _) | (with_reducible refine Kd.C_drewN ?_ _) | (with_reducible refine Kd.C_drew ?_)))
      (case side6 => exact (qR HO212.out).2.1)
      (case side7 => repeat (first | exact (qR HO215.out).2.2 | (with_reducible refine Kd.C_alloc ?_ _) | (with_reducible refine Kd.C_drewN ?_ _) | (with_reducible refine Kd.C_drew ?_)))
      (case side8 => exact (qR HO215.out).2.1)
      rintro e w189 ⟨rfl, hb⟩
      refine ⟨_, rfl, ?_⟩
      have n0_ := qM (Kd.R_below (by (with_reducible repeat (first | apply qA | apply qN | apply qD)); exact HO_194000.out) hb)
      have n1_ := qM (Kd.R_below (by (with_reducible repeat (first | apply qA | apply qN | apply qD)); exact HO_194001.out) hb)
      have n2_ := qM (Kd.R_below (by (with_reducible repeat (first | apply qA | apply qN | apply qD)); exact HO_201000.out) hb)
      have n3_ := qM (Kd.R_below (by (with_reducible repeat (first | apply qA | apply qN | apply qD)); exact HO_201001.out) hb)
      have n4_ := qM (Kd.R_below (by (with_reducible repeat (first | apply qA | apply qN | apply qD)); exact HO_209000.out) hb)
      have n5_ := qM (Kd.R_below (by (with_reducible repeat (first | apply qA | apply qN | apply qD)); exact HO_209001.out) hb)
      have n6_ := qM (Kd.R_below (by (with_reducible repeat (first | apply qA | apply qN | apply qD)); exact HO212.out) hb)
      have n7_ := qM (Kd.R_below (by (with_reducible repeat (first | apply qA | apply qN | apply qD)); exact HO215.out) hb)
      have n8_ := qM (blk_below (g := gb178) (o := .cells #[.slice A0_0 l0_0.length c0_0, .slice A0_1 l0_1.length c0_1] 48 (0, 0)) (by (with_reducible repeat (first | refine zN ?_ _ | refine zD ?_ | refine zA ?_ _)); exact BK178.out) hb)
      have n9_ := qM (blk_below (g := gb193) (o := .cells #[.slice Ao24 t186.length co24, .slice Ao27 t189.length co27] 37 (0, 0)) (by (with_reducible repeat (first | refine zN ?_ _ | refine zD ?_ | refine zA ?_ _)); exact BK193.out) hb)
      have n10_ := qM (blk_below (g := gb200) (o := .cells #[.slice Ao31 t194.length co31, .slice Ao35 t197.length co35] 37 (0, 0)) (by (with_reducible repeat (first | refine zN ?_ _ | refine zD ?_ | refine zA ?_ _)); exact BK200.out) hb)
      have n11_ := qM (blk_below (g := gb208) (o := .cells #[.slice Ao38 t201.length co38, .slice Ao43 t204.length co43] 37 (0, 0)) (by (with_reducible repeat (first | refine zN ?_ _ | refine zD ?_ | refine zA ?_ _)); exact BK208.out) hb)
      have n12_ := qM (below_step (by repeat (first | (with_reducible first | exact HB.out | apply yA | apply yN | apply yD | refine yS ?_ GE178.out | refine yS ?_ GE193.out | refine yS ?_ GE200.out | refine yS ?_ GE208.out) | exact HB.out)) hb)
      clear HO_194000
      clear HO_194001
      clear HO_201000
      clear HO_201001
      clear HO_209000
      clear HO_209001
      clear HO212
      clear HO215
      clear BK178
      clear BK193
      clear BK200
      clear BK208
      clear HB
      have HO_194000 := n0_
      have HO_194001 := n1_
      have HO_201000 := n2_
      have HO_201001 := n3_
      have HO_209000 := n4_
      have HO_209001 := n5_
      have HO212 := n6_
      have HO215 := n7_
      have BK178 := n8_
      have BK193 := n9_
      have BK200 := n10_
      have BK208 := n11_
      have HB := n12_
      clear n0_ n1_ n2_ n3_ n4_ n5_ n6_ n7_ n8_ n9_ n10_ n11_ n12_
      (try clear hb)
      (try clear hb2)
      (try clear hk)
      (try clear hi)
      refine hK.out _ _ ⟨(zC BK200.out 0).trans rfl, (zC BK200.out 1).trans rfl, (zC BK178.out 0).trans rfl, (zC BK178.out 1).trans rfl⟩ (fun hHeld => ?_)
      clear hK K
      refine norm_ (a' := ?_) ?_ ?_
      rotate_left
      ·show Act.put _ (some 56) _ = _
       simp only [Act.put, List.setIfInBounds_toArray, List.set_cons_zero, List.set_cons_succ, i64_w, i32_w]
       rfl
      refine pure_ (i := 4) (N := some 57) (v := ?_) (a' := ?_) #[true, true, true, true, true] rfl rfl (by kernel_rfl) (fun _ _ _ h => h) (Or.inl ⟨by rfl, ?_⟩) ?_ ?_
      rotate_left
      ·intro w'
       go_simp
       with_reducible rfl
      rotate_left
      ·simp only [Act.put, List.setIfInBounds_toArray, List.set_cons_zero, List.set_cons_succ, i64_w, i32_w]
       rfl
      refine done_ (by kernel_rfl) ?_
      try go_wp2
      go_ret
      exact ⟨by first | rfl | (simp [errW_none, errW_some] <;> rfl) | (simp [*, errW_none, errW_some] <;> rfl), by repeat (first | (with_reducible first | exact HB.out | apply yA | apply yN | apply yD | refine yS ?_ GE178.out | refine yS ?_ GE193.out | refine yS ?_ GE200.out | refine yS ?_ GE208.out) | exact HB.out)⟩

/-- THE ONE PURE STATEMENT of laws_FnExactHrdHear. -/
def laws_FnExactHrdHear.Pure : Prop := ∀ (l0_0 : List Int) (l0_1 : List Int) (a1 : Int) (a2 : Int) (a3 : Int), l0_0.length ≤ maxLen → (∀ x ∈ l0_0, (Lit.int .i64 x).wf = true) → l0_1.length ≤ maxLen → (∀ x ∈ l0_1, (Lit.int .i64 x).wf = true) → (Lit.int .i64 a1).wf = true → (Lit.int .i64 a2).wf = true → (Lit.int .i64 a3).wf = true → ∃ k, laws_FnExactHrdHear.f k l0_0 l0_1 a1 a2 a3 = some true

end Go.Proofs.Ytaohaebgpbagmaa.PFnExactHrdHear
