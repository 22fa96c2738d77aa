/- Functions that a law reaches, each with the walk that shows what its call answers; laid by a program of this session. -/
import Derived.Test.YtlmlbodbloahlaaPFnGrdMorex0
import Derived.Test.YtlmlbodbloahlaaPFnGrdMorex2
import Derived.Test.YtlmlbodbloahlaaPFnGrdMorex3
import Derived.Test.YtlmlbodbloahlaaPFnGrdMorex4
namespace Go.Proofs.Ytlmlbodbloahlaa.PFnGrdMore
open Go.RowKit Go.Proofs.YtlmlbodbloahlaaW.PrintWords Go.Proofs.YtlmlbodbloahlaaW.PrintLast Go.Proofs.YtlmlbodbloahlaaW.PrintMore
attribute [local go_sem] max2_int min2_int max_two min_two max_three min_three max_four min_four   -- for this text's walks alone
set_option linter.unusedVariables false
set_option linter.unusedSimpArgs false

open Go.Proofs.YtlmlbodbloahlaaAl
/-! ### spec_l31Guard: function 52 -/
def spec_l31Guard.l0 : Nat → List (S46) → Int → List Int → Int → Option ((List (S46)) × Int)
 | 0, _, _, _, _ => none
 | k + 1, x3, x4, x1000, x1001 => if x4 > 0 then ((spec_l31Rule.f k x1000 x1001).bind fun bt265 => (if x3.length < 2513169434916 then (spec_l31Guard.l0 k (x3 ++ [(⟨bt265.1, bt265.2.1, bt265.2.2.1, bt265.2.2.2.1, bt265.2.2.2.2.1, bt265.2.2.2.2.2.1, bt265.2.2.2.2.2.2.1⟩ : S46)]) (wrap64 (x4 - 1)) x1000 bt265.2.2.2.2.2.2.2) else (none))) else (some (x3, x1001))
def spec_l31Guard.f (k : Nat) (s0_0 : List Int) (s0_1 : Int) : Option ((List (S46)) × Int) := (spec_l30Rd_pick.f k s0_0 s0_1 4).bind fun bt263 => (spec_l31Guard.l0 k (([] : List (S46))) bt263.1 s0_0 bt263.2)
theorem spec_l31Guard.mono_l : ∀ k, (∀ y0 y1 y2 y3, LeO (spec_l31Guard.l0 k y0 y1 y2 y3) (spec_l31Guard.l0 (k + 1) y0 y1 y2 y3))
 | 0 => fun _ _ _ _ r h => by simp [spec_l31Guard.l0] at h
 | k + 1 => by
  have ih0 := spec_l31Guard.mono_l k
  ·intro y0 y1 y2 y3
   unfold spec_l31Guard.l0
   repeat' first
   | (with_reducible exact ih0 _ _ _ _)
   | (with_reducible exact spec_l30Rd_pick.mono _ _ _ _)
   | (with_reducible exact spec_l31Rule.mono _ _ _)
   | (with_reducible exact LeO.refl _)
   | (with_reducible exact LeO.none _)
   | (with_reducible refine LeO.ite ?_ ?_)
   | (with_reducible refine LeO.bind ?_ (fun _ => ?_))
   | exact ih0 _ _ _ _
   | exact spec_l30Rd_pick.mono _ _ _ _
   | exact spec_l31Rule.mono _ _ _
   | exact LeO.none _
   | refine LeO.ite ?_ ?_
   | refine LeO.bind ?_ (fun _ => ?_)
theorem spec_l31Guard.mono : ∀ a0 a1 k, LeO (spec_l31Guard.f k a0 a1) (spec_l31Guard.f (k + 1) a0 a1) := by
 intro a0 a1 k
 have ih0 := spec_l31Guard.mono_l k
 unfold spec_l31Guard.f
 repeat' first
   | (with_reducible exact ih0 _ _ _ _)
   | (with_reducible exact spec_l30Rd_pick.mono _ _ _ _)
   | (with_reducible exact spec_l31Rule.mono _ _ _)
   | (with_reducible exact LeO.refl _)
   | (with_reducible exact LeO.none _)
   | (with_reducible refine LeO.ite ?_ ?_)
   | (with_reducible refine LeO.bind ?_ (fun _ => ?_))
   | exact ih0 _ _ _ _
   | exact spec_l30Rd_pick.mono _ _ _ _
   | exact spec_l31Rule.mono _ _ _
   | exact LeO.none _
   | refine LeO.ite ?_ ?_
   | refine LeO.bind ?_ (fun _ => ?_)
set_option maxHeartbeats 8000000 in
set_option maxRecDepth 100000 in
theorem spec_l31Guard.calls (k : Nat) (g : Nat) (s0_0 : List Int) (s0_1 : Int) (r1 : List (S46)) (r2 : Int) (w0 w : World) (hI : IsS67 w0 w g s0_0 s0_1) (hB : Below w0.heap.size w0 w) (h : spec_l31Guard.f k s0_0 s0_1 = some (r1, r2)) :
  Calls Try.prog 52 #[.pointer (some ⟨g, 0, none⟩)] w fun e w' => ∃ v0_ : Value, e = .returned (v0_) ∧ Kd.R k46 46 w' w.heap.size (fun _ => True) v0_ r1 ∧ IsS67 w0 w' g s0_0 r2 ∧ Below w0.heap.size w0 w' ∧ KeepBut w w' g none := by
 have HI0 := qM hI
 have HK := qM (KeepBut.refl w g none)
 have HL := qM hB.size
 clear hI
 have HW0 := qM hB.size
 have HB := qM hB
 clear hB
 have H : ((spec_l30Rd_pick.f k s0_0 s0_1 4).bind fun bt263 => (spec_l31Guard.l0 k (([] : List (S46))) bt263.1 s0_0 bt263.2)) = some (r1, r2) := h
 clear h
 obtain ⟨y260, hy260⟩ : ∃ y_ : List (S46), y_ = (([] : List (S46))) := ⟨_, rfl⟩
 replace H : ((spec_l30Rd_pick.f k s0_0 s0_1 4).bind fun bt263 => (spec_l31Guard.l0 k y260 bt263.1 s0_0 bt263.2)) = some (r1, r2) := by first | (rw [hy260]; with_reducible exact H) | (have H2_ := (Option.bind_some _ _).symm.trans H; rw [hy260]; with_reducible exact H2_) | (have H2_ := (Option.bind_some _ _).symm.trans H; with_reducible exact H2_) | with_reducible exact H | (rw [hy260]; exact H) | exact H
 have Ny260 := qM hy260
 clear hy260
 replace H := Option.bind_eq_some_iff.mp H
 obtain ⟨⟨t263, t264⟩, A20, H⟩ := H
 replace H : (spec_l31Guard.l0 k y260 t263 s0_0 t264) = some (r1, r2) := H
 have A2 := qM A20
 clear A20
 have H' := qM H
 clear H
 go_enter Try.func52, Try.ntmps52
 go_wp2_with (first | ((with_reducible refine gate_dst (N := 5) rfl ?_); refine Kd.R_lit k46 _ 46 ?hg (N := 5) ?hd (xs := ([] : List (S46))) (inner := []) (ok := fun _ => True) (okp := fun _ => True) ?hr ?hp (fun _ hk => hk) trivial (Below.refl _ _) (Nat.le_refl _) (by simp) ?_; (case hd => rfl); (case hg => rfl); (case hr => first | (go_simp; done) | (go_simp; rfl)); (case hp => exact (Reps.none _ _)); intro v261 w3 ho4 hb hg_ hnew_; clear hg_ hnew_; (first | rw [← Ny260.out] at ho4 | (simp only [Int.reduceToNat] at ho4; rw [← Ny260.out] at ho4)); have n0_ := qM (Kd.R_lower ho4 (keep_size (w := w) (g := g) (row := none) (by repeat (first | (with_reducible first | exact HK.out | apply KeepBut.set_ | apply keep_drewN | apply keep_drew | apply keep_alloc) | exact HK.out)))); have n1_ := qM (IsS67.below (by repeat (first | (with_reducible first | exact HI0.out | apply IsS67.alloc | apply IsS67.drewN | apply IsS67.drew | apply IsS67.set_1) | exact HI0.out)) hb); have n2_ := qM (KeepBut.trans (by repeat (first | (with_reducible first | exact HK.out | apply KeepBut.set_ | apply keep_drewN | apply keep_drew | apply keep_alloc) | exact HK.out)) (KeepBut.of_below hb g none) (.inl rfl)); have n3_ := qM (below_step (by repeat (first | (with_reducible first | exact HB.out | apply yA | apply yN | apply yD | refine yS ?_ (IsS67.ge HI0.out)) | exact HB.out)) hb); clear HI0; clear HK; clear HB; have HO262 := n0_; have HI0 := n1_; have HK := n2_; have HB := n3_; clear n0_ n1_ n2_ n3_; clear hb ho4) | ((with_reducible refine gate_callee (f := 39) rfl ?_); refine goesL_ (some 7) rfl rfl Try.func39 (by kernel_rfl) rfl #[.pointer (some ⟨g, 0, none⟩), .int .i64 4] rfl (by (try simp only [List.map_toArray, List.map_cons, List.map_nil]); first | done | rfl | (simp only [List.length_drop, List.length_take]; rfl)) ?_; (with_reducible refine (spec_l30Rd_pick.calls k g s0_0 s0_1 4 t263 t264 w0 _ ?side1 ?side2 A2.out).mono ?_); (case side1 => repeat (first | (with_reducible first | exact HI0.out | apply IsS67.alloc | apply IsS67.drewN | apply IsS67.drew | apply IsS67.set_1) | exact HI0.out)); (case side2 => repeat (first | (with_reducible first | exact HB.out | apply yA | apply yN | apply yD | refine yS ?_ (IsS67.ge HI0.out)) | exact HB.out)); rintro e w5 ⟨rfl, hi, hb, hk⟩; refine ⟨_, rfl, ?_⟩; have n0_ := qM (Kd.R_mono (Kd.R_keep (IsS67.apart (show IsS67 w0 _ g s0_0 s0_1 from by repeat (first | (with_reducible first | exact HI0.out | apply IsS67.alloc | apply IsS67.drewN | apply IsS67.drew | apply IsS67.set_1) | exact HI0.out)) (by (with_reducible repeat (first | apply qA | apply qN | apply qD)); exact HO262.out) (by decide)) hk (fun _ h => h.2)) (fun _ h => h.1)); have n1_ := qM (KeepBut.trans (by repeat (first | (with_reducible first | exact HK.out | apply KeepBut.set_ | apply keep_drewN | apply keep_drew | apply keep_alloc) | exact HK.out)) hk (.inl rfl)); have n2_ := qM (hb); have n3_ := qM (hi); clear HO262; clear HK; clear HB; clear HI0; have HO262 := n0_; have HK := n1_; have HB := n2_; have HI0 := n3_; clear n0_ n1_ n2_ n3_; (try clear hb); (try clear hb2); (try clear hk); (try clear hi)))
 go_loopg [3, 4] k (fun kq v3 v4 w' => ∃ (x3_1 : List (S46)) (x4_1 : Int) (x1001_1 : Int), v4 = .int .i64 x4_1 ∧ Aside0 (spec_l31Guard.l0 kq x3_1 x4_1 s0_0 x1001_1 = some (r1, r2)) ∧ Aside0 (kq ≤ k) ∧ Aside0 (Kd.R k46 46 w' w.heap.size (fun _ => True) v3 x3_1) ∧ Aside0 (IsS67 w0 w' g s0_0 x1001_1) ∧ Aside0 (KeepBut w w' g none) ∧ Aside0 (Below w0.heap.size w0 w'))
 case atStart => exact ⟨(y260), (t263), (t264), (by first | rfl | (simp; done) | (simp [*]; done)), H', ⟨Nat.le_refl _⟩, ⟨by (with_reducible repeat (first | apply qA | apply qN | apply qD)); exact HO262.out⟩, ⟨by repeat (first | (with_reducible first | exact HI0.out | apply IsS67.alloc | apply IsS67.drewN | apply IsS67.drew | apply IsS67.set_1) | exact HI0.out)⟩, ⟨by repeat (first | (with_reducible first | exact HK.out | apply KeepBut.set_ | apply keep_drewN | apply keep_drew | apply keep_alloc) | exact HK.out)⟩, ⟨by repeat (first | (with_reducible first | exact HB.out | apply yA | apply yN | apply yD | refine yS ?_ (IsS67.ge HI0.out)) | exact HB.out)⟩⟩
 case round =>
  clear H'
  try clear p2
  try clear c3
  try clear c5
  obtain ⟨x3_1, x4_1, x1001_1, rfl, HA, HK1, HO_3, HI0, HK, HB⟩ := hrel
  cases gk with
  | zero => exact absurd HA.out (by simp [spec_l31Guard.l0])
  | succ k1 =>
   have H := HA.out
   clear HA
   simp only [spec_l31Guard.l0] at H
   by_cases c6 : x4_1 > 0
   ·rw [if_pos c6] at H
    have c6b0 : decide (0 < x4_1) = true := decide_eq_true c6
    clear c6
    replace H := Option.bind_eq_some_iff.mp H
    obtain ⟨⟨t265, t266, t267, t268, t269, t270, t271, t272⟩, A70, H⟩ := H
    replace H : (if x3_1.length < 2513169434916 then (spec_l31Guard.l0 k1 (x3_1 ++ [(⟨t265, t266, t267, t268, t269, t270, t271⟩ : S46)]) (wrap64 (x4_1 - 1)) s0_0 t272) else (none)) = some (r1, r2) := H
    have A7 := qM A70
    clear A70
    by_cases c8 : x3_1.length < 2513169434916
    ·rw [if_pos c8] at H
     have LMc8 := qM c8
     clear c8
     obtain ⟨y273, hy273⟩ : ∃ y_ : List (S46), y_ = (x3_1 ++ [(⟨t265, t266, t267, t268, t269, t270, t271⟩ : S46)]) := ⟨_, rfl⟩
     replace H : (spec_l31Guard.l0 k1 y273 (wrap64 (x4_1 - 1)) s0_0 t272) = some (r1, r2) := by first | (rw [hy273]; with_reducible exact H) | (have H2_ := (Option.bind_some _ _).symm.trans H; rw [hy273]; with_reducible exact H2_) | (have H2_ := (Option.bind_some _ _).symm.trans H; with_reducible exact H2_) | with_reducible exact H | (rw [hy273]; exact H) | exact H
     have Ny273 := qM hy273
     clear hy273
     have H' := qM H
     clear H
     go_wp2_with (first | ((with_reducible refine gate_callee (f := 49) rfl ?_); refine goesL_ (some 14) rfl rfl Try.func49 (by kernel_rfl) rfl #[.pointer (some ⟨g, 0, none⟩)] rfl (by (try simp only [List.map_toArray, List.map_cons, List.map_nil]); first | done | rfl | (simp only [List.length_drop, List.length_take]; rfl)) ?_; (with_reducible refine (spec_l31Rule.calls k1 g s0_0 x1001_1 t265 t266 t267 t268 t269 t270 t271 t272 w0 _ ?side1 ?side2 A7.out).mono ?_); (case side1 => repeat (first | (with_reducible first | exact HI0.out | apply IsS67.alloc | apply IsS67.drewN | apply IsS67.drew | apply IsS67.set_1) | exact HI0.out)); (case side2 => repeat (first | (with_reducible first | exact HB.out | apply yA | apply yN | apply yD | refine yS ?_ (IsS67.ge HI0.out)) | exact HB.out)); rintro e w9 ⟨rfl, hi, hb, hk⟩; refine ⟨_, rfl, ?_⟩; have n0_ := qM (Kd.R_mono (Kd.R_keep (IsS67.apart (show IsS67 w0 _ g s0_0 x1001_1 from by repeat (first | (with_reducible first | exact HI0.out | apply IsS67.alloc | apply IsS67.drewN | apply IsS67.drew | apply IsS67.set_1) | exact HI0.out)) (by (with_reducible repeat (first | apply qA | apply qN | apply qD)); exact HO_3.out) (by decide)) hk (fun _ h => h.2)) (fun _ h => h.1)); have n1_ := qM (KeepBut.trans (by repeat (first | (with_reducible first | exact HK.out | apply KeepBut.set_ | apply keep_drewN | apply keep_drew | apply keep_alloc) | exact HK.out)) hk (.inl rfl)); have n2_ := qM (hb); have n3_ := qM (hi); clear HO_3; clear HK; clear HB; clear HI0; have HO_3 := n0_; have HK := n1_; have HB := n2_; have HI0 := n3_; clear n0_ n1_ n2_ n3_; (try clear hb); (try clear hb2); (try clear hk); (try clear hi)) | ((with_reducible refine gate_builtin (b := .append) (xs := #[.tmp 12, .tmp 15]) rfl ?_); at_builtin; refine Kd.R_append k46 w.heap.size rfl (.tmp 12) (.tmp 15) 36 46 (.agg #[(.int .i64 0), (.int .i64 0), (.int .i64 0), (.int .i64 0), (.int .i64 0), (.int .i64 0), (.int .i64 0)]) 56 rfl Try.underlying36 info46 rfl (by decide) (by omega) u3 x3_1 (⟨t265, t266, t267, t268, t269, t270, t271⟩ : S46) [.int .i64 t265, .int .i64 t266, .int .i64 t267, .int .i64 t268, .int .i64 t269, .int .i64 t270, .int .i64 t271] (fun _ => True) (fun _ => False) rfl rfl ?aP (fun _ hk => hk.elim) ?aF ?aO (Below.refl _ _) ?aS ?aL ?_; (case aP => exact k46_mkM _ _ _ (⟨t265, t266, t267, t268, t269, t270, t271⟩ : S46)); (case aF => exact (fun _ _ => trivial)); (case aO => exact (by (with_reducible repeat (first | apply qA | apply qN | apply qD)); exact HO_3.out)); (case aS => exact (keep_size (w := w) (g := g) (row := none) (by repeat (first | (with_reducible first | exact HK.out | apply KeepBut.set_ | apply keep_drewN | apply keep_drew | apply keep_alloc) | exact HK.out)))); (case aL => have := LMc8.out; omega); intro v274 w10 ho hb hg hat; rw [← Ny273.out] at ho; have n0_ := qM (IsS67.grown (by repeat (first | (with_reducible first | exact HI0.out | apply IsS67.alloc | apply IsS67.drewN | apply IsS67.drew | apply IsS67.set_1) | exact HI0.out)) hg (IsS67.own_ne HI0.out HO_3.out (by decide))); have n1_ := qM (below_weaken (by repeat (first | (with_reducible first | exact HB.out | apply yA | apply yN | apply yD | refine yS ?_ (IsS67.ge HI0.out)) | exact HB.out)) HL.out hb); have n2_ := qM (KeepBut.trans (by repeat (first | (with_reducible first | exact HK.out | apply KeepBut.set_ | apply keep_drewN | apply keep_drew | apply keep_alloc) | exact HK.out)) (KeepBut.of_grown hg g) (Kd.R_base2 HO_3.out)); have n3_ := qM (ho); clear HI0; clear HB; clear HK; clear HO_3; have HI0 := n0_; have HB := n1_; have HK := n2_; have HO275 := n3_; clear n0_ n1_ n2_ n3_; clear ho hb hg hat))
     go_roundg k1
     case measure => have := HK1.out; omega
     case rel => exact ⟨(y273), (wrap64 (x4_1 - 1)), (t272), (by first | rfl | (simp; done) | (simp [*]; done)), H', ⟨by have := HK1.out; omega⟩, ⟨by (with_reducible repeat (first | apply qA | apply qN | apply qD)); exact HO275.out⟩, ⟨by repeat (first | (with_reducible first | exact HI0.out | apply IsS67.alloc | apply IsS67.drewN | apply IsS67.drew | apply IsS67.set_1) | exact HI0.out)⟩, ⟨by repeat (first | (with_reducible first | exact HK.out | apply KeepBut.set_ | apply keep_drewN | apply keep_drew | apply keep_alloc) | exact HK.out)⟩, ⟨by repeat (first | (with_reducible first | exact HB.out | apply yA | apply yN | apply yD | refine yS ?_ (IsS67.ge HI0.out)) | exact HB.out)⟩⟩
    ·rw [if_neg c8] at H
     exact absurd H (by simp)
   ·rw [if_neg c6] at H
    have c6b0 : decide (0 < x4_1) = false := decide_eq_false c6
    clear c6
    simp only [Option.some.injEq, Prod.mk.injEq] at H
    obtain ⟨rfl, rfl⟩ := H
    go_wp2
    go_ret
    exact ⟨_, by first | rfl | (simp [errW_none, errW_some] <;> rfl) | (simp [*, errW_none, errW_some] <;> rfl), by (with_reducible repeat (first | apply qA | apply qN | apply qD)); exact HO_3.out, by repeat (first | (with_reducible first | exact HI0.out | apply IsS67.alloc | apply IsS67.drewN | apply IsS67.drew | apply IsS67.set_1) | exact HI0.out), by repeat (first | (with_reducible first | exact HB.out | apply yA | apply yN | apply yD | refine yS ?_ (IsS67.ge HI0.out)) | exact HB.out), by repeat (first | (with_reducible first | exact HK.out | apply KeepBut.set_ | apply keep_drewN | apply keep_drew | apply keep_alloc) | exact HK.out)⟩

open Go.Proofs.YtlmlbodbloahlaaAl
/-! ### spec_l31Guards: function 47 -/
def spec_l31Guards.l0 : Nat → List (S46) → List Int → Int → Option ((List (S46)) × Int)
 | 0, _, _, _ => none
 | k + 1, x3, x1000, x1001 => if (x3.length : Int) ≤ 4 then ((spec_l31Rule.f k x1000 x1001).bind fun bt282 => (if x3.length < 2513169434916 then (spec_l31Guards.l0 k (x3 ++ [(⟨bt282.1, bt282.2.1, bt282.2.2.1, bt282.2.2.2.1, bt282.2.2.2.2.1, bt282.2.2.2.2.2.1, bt282.2.2.2.2.2.2.1⟩ : S46)]) x1000 bt282.2.2.2.2.2.2.2) else (none))) else (if (x3.length : Int) > 0 then (if 0 < (x3.length : Int) then ((spec_l31Bad.f k x1000 x1001 ((rd_T46 x3 0).f0) ((rd_T46 x3 0).f1) ((rd_T46 x3 0).f2) ((rd_T46 x3 0).f3) ((rd_T46 x3 0).f4) ((rd_T46 x3 0).f5) ((rd_T46 x3 0).f6)).bind fun bt294 => (some ((x3.set (0 : Int).toNat (⟨bt294.1, bt294.2.1, bt294.2.2.1, bt294.2.2.2.1, bt294.2.2.2.2.1, bt294.2.2.2.2.2.1, bt294.2.2.2.2.2.2.1⟩ : S46)), bt294.2.2.2.2.2.2.2))) else (none)) else (some (x3, x1001)))
def spec_l31Guards.f (k : Nat) (s0_0 : List Int) (s0_1 : Int) : Option ((List (S46)) × Int) := (spec_l31Guard.f k s0_0 s0_1).bind fun bt276 => ((spec_l30Rd_pick.f k s0_0 bt276.2 12).bind fun bt280 => (if bt280.1 = 0 then (spec_l31Guards.l0 k bt276.1 s0_0 bt280.2) else (if (bt276.1.length : Int) > 0 then (if 0 < (bt276.1.length : Int) then ((spec_l31Bad.f k s0_0 bt280.2 ((rd_T46 bt276.1 0).f0) ((rd_T46 bt276.1 0).f1) ((rd_T46 bt276.1 0).f2) ((rd_T46 bt276.1 0).f3) ((rd_T46 bt276.1 0).f4) ((rd_T46 bt276.1 0).f5) ((rd_T46 bt276.1 0).f6)).bind fun bt304 => (some ((bt276.1.set (0 : Int).toNat (⟨bt304.1, bt304.2.1, bt304.2.2.1, bt304.2.2.2.1, bt304.2.2.2.2.1, bt304.2.2.2.2.2.1, bt304.2.2.2.2.2.2.1⟩ : S46)), bt304.2.2.2.2.2.2.2))) else (none)) else (some (bt276.1, bt280.2)))))
theorem spec_l31Guards.mono_l : ∀ k, (∀ y0 y1 y2, LeO (spec_l31Guards.l0 k y0 y1 y2) (spec_l31Guards.l0 (k + 1) y0 y1 y2))
 | 0 => fun _ _ _ r h => by simp [spec_l31Guards.l0] at h
 | k + 1 => by
  have ih0 := spec_l31Guards.mono_l k
  ·intro y0 y1 y2
   unfold spec_l31Guards.l0
   repeat' first
   | (with_reducible exact ih0 _ _ _)
   | (with_reducible exact spec_l30Rd_pick.mono _ _ _ _)
   | (with_reducible exact spec_l31Bad.mono _ _ _ _ _ _ _ _ _ _)
   | (with_reducible exact spec_l31Guard.mono _ _ _)
   | (with_reducible exact spec_l31Rule.mono _ _ _)
   | (with_reducible exact LeO.refl _)
   | (with_reducible exact LeO.none _)
   | (with_reducible refine LeO.ite ?_ ?_)
   | (with_reducible refine LeO.bind ?_ (fun _ => ?_))
   | exact ih0 _ _ _
   | exact spec_l30Rd_pick.mono _ _ _ _
   | exact spec_l31Bad.mono _ _ _ _ _ _ _ _ _ _
   | exact spec_l31Guard.mono _ _ _
   | exact spec_l31Rule.mono _ _ _
   | exact LeO.none _
   | refine LeO.ite ?_ ?_
   | refine LeO.bind ?_ (fun _ => ?_)
theorem spec_l31Guards.mono : ∀ a0 a1 k, LeO (spec_l31Guards.f k a0 a1) (spec_l31Guards.f (k + 1) a0 a1) := by
 intro a0 a1 k
 have ih0 := spec_l31Guards.mono_l k
 unfold spec_l31Guards.f
 repeat' first
   | (with_reducible exact ih0 _ _ _)
   | (with_reducible exact spec_l30Rd_pick.mono _ _ _ _)
   | (with_reducible exact spec_l31Bad.mono _ _ _ _ _ _ _ _ _ _)
   | (with_reducible exact spec_l31Guard.mono _ _ _)
   | (with_reducible exact spec_l31Rule.mono _ _ _)
   | (with_reducible exact LeO.refl _)
   | (with_reducible exact LeO.none _)
   | (with_reducible refine LeO.ite ?_ ?_)
   | (with_reducible refine LeO.bind ?_ (fun _ => ?_))
   | exact ih0 _ _ _
   | exact spec_l30Rd_pick.mono _ _ _ _
   | exact spec_l31Bad.mono _ _ _ _ _ _ _ _ _ _
   | exact spec_l31Guard.mono _ _ _
   | exact spec_l31Rule.mono _ _ _
   | exact LeO.none _
   | refine LeO.ite ?_ ?_
   | refine LeO.bind ?_ (fun _ => ?_)
set_option maxHeartbeats 8000000 in
set_option maxRecDepth 100000 in
theorem spec_l31Guards.calls (k : Nat) (g : Nat) (s0_0 : List Int) (s0_1 : Int) (r1 : List (S46)) (r2 : Int) (w0 w : World) (hI : IsS67 w0 w g s0_0 s0_1) (hB : Below w0.heap.size w0 w) (h : spec_l31Guards.f k s0_0 s0_1 = some (r1, r2)) :
  Calls Try.prog 47 #[.pointer (some ⟨g, 0, none⟩)] w fun e w' => ∃ v0_ : Value, e = .returned (v0_) ∧ Kd.R k46 46 w' w.heap.size (fun _ => True) v0_ r1 ∧ IsS67 w0 w' g s0_0 r2 ∧ Below w0.heap.size w0 w' ∧ KeepBut w w' g none := by
 have hu46 := Try.underlying46
 have HI0 := qM hI
 have HK := qM (KeepBut.refl w g none)
 have HL := qM hB.size
 clear hI
 have HW0 := qM hB.size
 have HB := qM hB
 clear hB
 have H : ((spec_l31Guard.f k s0_0 s0_1).bind fun bt276 => ((spec_l30Rd_pick.f k s0_0 bt276.2 12).bind fun bt280 => (if bt280.1 = 0 then (spec_l31Guards.l0 k bt276.1 s0_0 bt280.2) else (if (bt276.1.length : Int) > 0 then (if 0 < (bt276.1.length : Int) then ((spec_l31Bad.f k s0_0 bt280.2 ((rd_T46 bt276.1 0).f0) ((rd_T46 bt276.1 0).f1) ((rd_T46 bt276.1 0).f2) ((rd_T46 bt276.1 0).f3) ((rd_T46 bt276.1 0).f4) ((rd_T46 bt276.1 0).f5) ((rd_T46 bt276.1 0).f6)).bind fun bt304 => (some ((bt276.1.set (0 : Int).toNat (⟨bt304.1, bt304.2.1, bt304.2.2.1, bt304.2.2.2.1, bt304.2.2.2.2.1, bt304.2.2.2.2.2.1, bt304.2.2.2.2.2.2.1⟩ : S46)), bt304.2.2.2.2.2.2.2))) else (none)) else (some (bt276.1, bt280.2)))))) = some (r1, r2) := h
 clear h
 replace H := Option.bind_eq_some_iff.mp H
 obtain ⟨⟨t276, t279⟩, A20, H⟩ := H
 replace H : ((spec_l30Rd_pick.f k s0_0 t279 12).bind fun bt280 => (if bt280.1 = 0 then (spec_l31Guards.l0 k t276 s0_0 bt280.2) else (if (t276.length : Int) > 0 then (if 0 < (t276.length : Int) then ((spec_l31Bad.f k s0_0 bt280.2 ((rd_T46 t276 0).f0) ((rd_T46 t276 0).f1) ((rd_T46 t276 0).f2) ((rd_T46 t276 0).f3) ((rd_T46 t276 0).f4) ((rd_T46 t276 0).f5) ((rd_T46 t276 0).f6)).bind fun bt304 => (some ((t276.set (0 : Int).toNat (⟨bt304.1, bt304.2.1, bt304.2.2.1, bt304.2.2.2.1, bt304.2.2.2.2.1, bt304.2.2.2.2.2.1, bt304.2.2.2.2.2.2.1⟩ : S46)), bt304.2.2.2.2.2.2.2))) else (none)) else (some (t276, bt280.2))))) = some (r1, r2) := H
 have A2 := qM A20
 clear A20
 replace H := Option.bind_eq_some_iff.mp H
 obtain ⟨⟨t280, t281⟩, A30, H⟩ := H
 replace H : (if t280 = 0 then (spec_l31Guards.l0 k t276 s0_0 t281) else (if (t276.length : Int) > 0 then (if 0 < (t276.length : Int) then ((spec_l31Bad.f k s0_0 t281 ((rd_T46 t276 0).f0) ((rd_T46 t276 0).f1) ((rd_T46 t276 0).f2) ((rd_T46 t276 0).f3) ((rd_T46 t276 0).f4) ((rd_T46 t276 0).f5) ((rd_T46 t276 0).f6)).bind fun bt304 => (some ((t276.set (0 : Int).toNat (⟨bt304.1, bt304.2.1, bt304.2.2.1, bt304.2.2.2.1, bt304.2.2.2.2.1, bt304.2.2.2.2.2.1, bt304.2.2.2.2.2.2.1⟩ : S46)), bt304.2.2.2.2.2.2.2))) else (none)) else (some (t276, t281)))) = some (r1, r2) := H
 have A3 := qM A30
 clear A30
 by_cases c4 : t280 = 0
 ·rw [if_pos c4] at H
  have c4b0 : (t280 == 0) = true := beq_iff_eq.mpr c4
  have c4b1 : (t280 != 0) = false := bne_eq_false_iff_eq.mpr c4
  clear c4
  have H' := qM H
  clear H
  go_enter Try.func47, Try.ntmps47
  go_wp2_with (first | ((with_reducible refine gate_callee (f := 52) rfl ?_); refine goesL_ (some 5) rfl rfl Try.func52 (by kernel_rfl) rfl #[.pointer (some ⟨g, 0, none⟩)] rfl (by (try simp only [List.map_toArray, List.map_cons, List.map_nil]); first | done | rfl | (simp only [List.length_drop, List.length_take]; rfl)) ?_; (with_reducible refine (spec_l31Guard.calls k g s0_0 s0_1 t276 t279 w0 _ ?side1 ?side2 A2.out).mono ?_); (case side1 => repeat (first | (with_reducible first | exact HI0.out | apply IsS67.alloc | apply IsS67.drewN | apply IsS67.drew | apply IsS67.set_1) | exact HI0.out)); (case side2 => repeat (first | (with_reducible first | exact HB.out | apply yA | apply yN | apply yD | refine yS ?_ (IsS67.ge HI0.out)) | exact HB.out)); rintro e w5 ⟨v277, rfl, ho0, hi, hb, hk⟩; refine ⟨_, rfl, ?_⟩; have n0_ := qM (Kd.R_lower ho0 (keep_size (w := w) (g := g) (row := none) (by repeat (first | (with_reducible first | exact HK.out | apply KeepBut.set_ | apply keep_drewN | apply keep_drew | apply keep_alloc) | exact HK.out)))); have n1_ := qM (KeepBut.trans (by repeat (first | (with_reducible first | exact HK.out | apply KeepBut.set_ | apply keep_drewN | apply keep_drew | apply keep_alloc) | exact HK.out)) hk (.inl rfl)); have n2_ := qM (hb); have n3_ := qM (hi); clear HK; clear HB; clear HI0; have HO278 := n0_; have HK := n1_; have HB := n2_; have HI0 := n3_; clear n0_ n1_ n2_ n3_; (try clear hb); (try clear hb2); (try clear hk); (try clear hi); (try clear ho0)) | ((with_reducible refine gate_callee (f := 39) rfl ?_); refine goesL_ (some 7) rfl rfl Try.func39 (by kernel_rfl) rfl #[.pointer (some ⟨g, 0, none⟩), .int .i64 12] rfl (by (try simp only [List.map_toArray, List.map_cons, List.map_nil]); first | done | rfl | (simp only [List.length_drop, List.length_take]; rfl)) ?_; (with_reducible refine (spec_l30Rd_pick.calls k g s0_0 t279 12 t280 t281 w0 _ ?side1 ?side2 A3.out).mono ?_); (case side1 => repeat (first | (with_reducible first | exact HI0.out | apply IsS67.alloc | apply IsS67.drewN | apply IsS67.drew | apply IsS67.set_1) | exact HI0.out)); (case side2 => repeat (first | (with_reducible first | exact HB.out | apply yA | apply yN | apply yD | refine yS ?_ (IsS67.ge HI0.out)) | exact HB.out)); rintro e w6 ⟨rfl, hi, hb, hk⟩; refine ⟨_, rfl, ?_⟩; have n0_ := qM (Kd.R_mono (Kd.R_keep (IsS67.apart (show IsS67 w0 _ g s0_0 t279 from by repeat (first | (with_reducible first | exact HI0.out | apply IsS67.alloc | apply IsS67.drewN | apply IsS67.drew | apply IsS67.set_1) | exact HI0.out)) (by (with_reducible repeat (first | apply qA | apply qN | apply qD)); exact HO278.out) (by decide)) hk (fun _ h => h.2)) (fun _ h => h.1)); have n1_ := qM (KeepBut.trans (by repeat (first | (with_reducible first | exact HK.out | apply KeepBut.set_ | apply keep_drewN | apply keep_drew | apply keep_alloc) | exact HK.out)) hk (.inl rfl)); have n2_ := qM (hb); have n3_ := qM (hi); clear HO278; clear HK; clear HB; clear HI0; have HO278 := n0_; have HK := n1_; have HB := n2_; have HI0 := n3_; clear n0_ n1_ n2_ n3_; (try clear hb); (try clear hb2); (try clear hk); (try clear hi)))
  go_loopg [3] k (fun kq v3 w' => ∃ (x3_1 : List (S46)) (x1001_1 : Int), Aside0 (spec_l31Guards.l0 kq x3_1 s0_0 x1001_1 = some (r1, r2)) ∧ Aside0 (kq ≤ k) ∧ Aside0 (Kd.R k46 46 w' w.heap.size (fun _ => True) v3 x3_1) ∧ Aside0 (IsS67 w0 w' g s0_0 x1001_1) ∧ Aside0 (KeepBut w w' g none) ∧ Aside0 (Below w0.heap.size w0 w'))
  case atStart => exact ⟨(t276), (t281), H', ⟨Nat.le_refl _⟩, ⟨by (with_reducible repeat (first | apply qA | apply qN | apply qD)); exact HO278.out⟩, ⟨by repeat (first | (with_reducible first | exact HI0.out | apply IsS67.alloc | apply IsS67.drewN | apply IsS67.drew | apply IsS67.set_1) | exact HI0.out)⟩, ⟨by repeat (first | (with_reducible first | exact HK.out | apply KeepBut.set_ | apply keep_drewN | apply keep_drew | apply keep_alloc) | exact HK.out)⟩, ⟨by repeat (first | (with_reducible first | exact HB.out | apply yA | apply yN | apply yD | refine yS ?_ (IsS67.ge HI0.out)) | exact HB.out)⟩⟩
  case round =>
   clear H'
   try clear p2
   try clear c3
   try clear c4
   try clear c4b0
   try clear c4b1
   try clear c5
   obtain ⟨x3_1, x1001_1, HA, HK1, HO_3, HI0, HK, HB⟩ := hrel
   cases gk with
   | zero => exact absurd HA.out (by simp [spec_l31Guards.l0])
   | succ k1 =>
    have H := HA.out
    clear HA
    simp only [spec_l31Guards.l0] at H
    by_cases c7 : (x3_1.length : Int) ≤ 4
    ·rw [if_pos c7] at H
     have c7b0 : decide ((x3_1.length : Int) ≤ 4) = true := decide_eq_true c7
     have c7b1 : decide (x3_1.length ≤ 4) = true := decide_eq_true (by omega)
     clear c7
     replace H := Option.bind_eq_some_iff.mp H
     obtain ⟨⟨t282, t283, t284, t285, t286, t287, t288, t289⟩, A80, H⟩ := H
     replace H : (if x3_1.length < 2513169434916 then (spec_l31Guards.l0 k1 (x3_1 ++ [(⟨t282, t283, t284, t285, t286, t287, t288⟩ : S46)]) s0_0 t289) else (none)) = some (r1, r2) := H
     have A8 := qM A80
     clear A80
     by_cases c9 : x3_1.length < 2513169434916
     ·rw [if_pos c9] at H
      have LMc9 := qM c9
      clear c9
      obtain ⟨y290, hy290⟩ : ∃ y_ : List (S46), y_ = (x3_1 ++ [(⟨t282, t283, t284, t285, t286, t287, t288⟩ : S46)]) := ⟨_, rfl⟩
      replace H : (spec_l31Guards.l0 k1 y290 s0_0 t289) = some (r1, r2) := by first | (rw [hy290]; with_reducible exact H) | (have H2_ := (Option.bind_some _ _).symm.trans H; rw [hy290]; with_reducible exact H2_) | (have H2_ := (Option.bind_some _ _).symm.trans H; with_reducible exact H2_) | with_reducible exact H | (rw [hy290]; exact H) | exact H
      have Ny290 := qM hy290
      clear hy290
      have H' := qM H
      clear H
      obtain ⟨Ao10, co10, eo10⟩ := Kd.R_slice HO_3.out
      subst eo10
      go_wp2_with (first | ((with_reducible refine gate_callee (f := 49) rfl ?_); refine goesL_ (some 14) rfl rfl Try.func49 (by kernel_rfl) rfl #[.pointer (some ⟨g, 0, none⟩)] rfl (by (try simp only [List.map_toArray, List.map_cons, List.map_nil]); first | done | rfl | (simp only [List.length_drop, List.length_take]; rfl)) ?_; (with_reducible refine (spec_l31Rule.calls k1 g s0_0 x1001_1 t282 t283 t284 t285 t286 t287 t288 t289 w0 _ ?side1 ?side2 A8.out).mono ?_); (case side1 => repeat (first | (with_reducible first | exact HI0.out | apply IsS67.alloc | apply IsS67.drewN | apply IsS67.drew | apply IsS67.set_1) | exact HI0.out)); (case side2 => repeat (first | (with_reducible first | exact HB.out | apply yA | apply yN | apply yD | refine yS ?_ (IsS67.ge HI0.out)) | exact HB.out)); rintro e w11 ⟨rfl, hi, hb, hk⟩; refine ⟨_, rfl, ?_⟩; have n0_ := qM (Kd.R_mono (Kd.R_keep (IsS67.apart (show IsS67 w0 _ g s0_0 x1001_1 from by repeat (first | (with_reducible first | exact HI0.out | apply IsS67.alloc | apply IsS67.drewN | apply IsS67.drew | apply IsS67.set_1) | exact HI0.out)) (by (with_reducible repeat (first | apply qA | apply qN | apply qD)); exact HO_3.out) (by decide)) hk (fun _ h => h.2)) (fun _ h => h.1)); have n1_ := qM (KeepBut.trans (by repeat (first | (with_reducible first | exact HK.out | apply KeepBut.set_ | apply keep_drewN | apply keep_drew | apply keep_alloc) | exact HK.out)) hk (.inl rfl)); have n2_ := qM (hb); have n3_ := qM (hi); clear HO_3; clear HK; clear HB; clear HI0; have HO_3 := n0_; have HK := n1_; have HB := n2_; have HI0 := n3_; clear n0_ n1_ n2_ n3_; (try clear hb); (try clear hb2); (try clear hk); (try clear hi)) | ((with_reducible refine gate_builtin (b := .append) (xs := #[.tmp 12, .tmp 15]) rfl ?_); at_builtin; refine Kd.R_append k46 w.heap.size rfl (.tmp 12) (.tmp 15) 36 46 (.agg #[(.int .i64 0), (.int .i64 0), (.int .i64 0), (.int .i64 0), (.int .i64 0), (.int .i64 0), (.int .i64 0)]) 56 rfl Try.underlying36 info46 rfl (by decide) (by omega) (.slice Ao10 x3_1.length co10) x3_1 (⟨t282, t283, t284, t285, t286, t287, t288⟩ : S46) [.int .i64 t282, .int .i64 t283, .int .i64 t284, .int .i64 t285, .int .i64 t286, .int .i64 t287, .int .i64 t288] (fun _ => True) (fun _ => False) rfl rfl ?aP (fun _ hk => hk.elim) ?aF ?aO (Below.refl _ _) ?aS ?aL ?_; (case aP => exact k46_mkM _ _ _ (⟨t282, t283, t284, t285, t286, t287, t288⟩ : S46)); (case aF => exact (fun _ _ => trivial)); (case aO => exact (by (with_reducible repeat (first | apply qA | apply qN | apply qD)); exact HO_3.out)); (case aS => exact (keep_size (w := w) (g := g) (row := none) (by repeat (first | (with_reducible first | exact HK.out | apply KeepBut.set_ | apply keep_drewN | apply keep_drew | apply keep_alloc) | exact HK.out)))); (case aL => have := LMc9.out; omega); intro v291 w12 ho hb hg hat; rw [← Ny290.out] at ho; have n0_ := qM (IsS67.grown (by repeat (first | (with_reducible first | exact HI0.out | apply IsS67.alloc | apply IsS67.drewN | apply IsS67.drew | apply IsS67.set_1) | exact HI0.out)) hg (IsS67.own_ne HI0.out HO_3.out (by decide))); have n1_ := qM (below_weaken (by repeat (first | (with_reducible first | exact HB.out | apply yA | apply yN | apply yD | refine yS ?_ (IsS67.ge HI0.out)) | exact HB.out)) HL.out hb); have n2_ := qM (KeepBut.trans (by repeat (first | (with_reducible first | exact HK.out | apply KeepBut.set_ | apply keep_drewN | apply keep_drew | apply keep_alloc) | exact HK.out)) (KeepBut.of_grown hg g) (Kd.R_base2 HO_3.out)); have n3_ := qM (ho); clear HI0; clear HB; clear HK; clear HO_3; have HI0 := n0_; have HB := n1_; have HK := n2_; have HO292 := n3_; clear n0_ n1_ n2_ n3_; clear ho hb hg hat))
      go_roundg k1
      case measure => have := HK1.out; omega
      case rel => exact ⟨(y290), (t289), H', ⟨by have := HK1.out; omega⟩, ⟨by (with_reducible repeat (first | apply qA | apply qN | apply qD)); exact HO292.out⟩, ⟨by repeat (first | (with_reducible first | exact HI0.out | apply IsS67.alloc | apply IsS67.drewN | apply IsS67.drew | apply IsS67.set_1) | exact HI0.out)⟩, ⟨by repeat (first | (with_reducible first | exact HK.out | apply KeepBut.set_ | apply keep_drewN | apply keep_drew | apply keep_alloc) | exact HK.out)⟩, ⟨by repeat (first | (with_reducible first | exact HB.out | apply yA | apply yN | apply yD | refine yS ?_ (IsS67.ge HI0.out)) | exact HB.out)⟩⟩
     ·rw [if_neg c9] at H
      exact absurd H (by simp)
    ·rw [if_neg c7] at H
     have c7b0 : decide ((x3_1.length : Int) ≤ 4) = false := decide_eq_false c7
     have c7b1 : decide (x3_1.length ≤ 4) = false := decide_eq_false (by omega)
     clear c7
     by_cases c13 : (x3_1.length : Int) > 0
     ·rw [if_pos c13] at H
      have c13b0 : decide (0 < (x3_1.length : Int)) = true := decide_eq_true c13
      have c13b1 : decide (0 < x3_1.length) = true := decide_eq_true (by omega)
      clear c13
      by_cases c14 : 0 < (x3_1.length : Int)
      ·rw [if_pos c14] at H
       have c14b0 : decide (0 < (x3_1.length : Int)) = true := decide_eq_true c14
       have c14b1 : decide (0 < x3_1.length) = true := decide_eq_true (by omega)
       clear c14
       replace H := Option.bind_eq_some_iff.mp H
       obtain ⟨⟨t294, t295, t296, t297, t298, t299, t300, t301⟩, A150, H⟩ := H
       replace H : (some ((x3_1.set (0 : Int).toNat (⟨t294, t295, t296, t297, t298, t299, t300⟩ : S46)), t301)) = some (r1, r2) := H
       have A15 := qM A150
       clear A150
       obtain ⟨y302, hy302⟩ : ∃ y_ : List (S46), y_ = (x3_1.set (0 : Int).toNat (⟨t294, t295, t296, t297, t298, t299, t300⟩ : S46)) := ⟨_, rfl⟩
       replace H : (some (y302, t301)) = some (r1, r2) := by first | (rw [hy302]; with_reducible exact H) | (have H2_ := (Option.bind_some _ _).symm.trans H; rw [hy302]; with_reducible exact H2_) | (have H2_ := (Option.bind_some _ _).symm.trans H; with_reducible exact H2_) | with_reducible exact H | (rw [hy302]; exact H) | exact H
       have Ny302 := qM hy302
       clear hy302
       simp only [Option.some.injEq, Prod.mk.injEq] at H
       obtain ⟨rfl, rfl⟩ := H
       obtain ⟨Ao17, co17, eo17⟩ := Kd.R_slice HO_3.out
       subst eo17
       have p293 : 0 ≤ (0 : Int) := (by omega)
       have q293 : 0 < (x3_1.length : Int) := of_decide_eq_true (by first | (with_reducible assumption) | assumption)
       obtain ⟨ad293, e293, hx293_0, hx293_1, hx293_2, hx293_3, hx293_4, hx293_5, hx293_6⟩ := at_T46 (qR HO_3.out).2.2 0 p293 q293
       cases e293
       have qi293 : (0 < x3_1.length) = True := eq_true (by omega)
       (try rw [show ((0 : Int)).toNat = 0 from rfl] at hx293_0)
       (try rw [show 0 * 7 = 0 from rfl] at hx293_0)
       (try rw [Addr.add_zero'] at hx293_0)
       (try rw [show ((0 : Int)).toNat = 0 from rfl] at hx293_1)
       (try rw [show 0 * 7 = 0 from rfl] at hx293_1)
       (try rw [Addr.add_zero'] at hx293_1)
       (try rw [show ((0 : Int)).toNat = 0 from rfl] at hx293_2)
       (try rw [show 0 * 7 = 0 from rfl] at hx293_2)
       (try rw [Addr.add_zero'] at hx293_2)
       (try rw [show ((0 : Int)).toNat = 0 from rfl] at hx293_3)
       (try rw [show 0 * 7 = 0 from rfl] at hx293_3)
       (try rw [Addr.add_zero'] at hx293_3)
       (try rw [show ((0 : Int)).toNat = 0 from rfl] at hx293_4)
       (try rw [show 0 * 7 = 0 from rfl] at hx293_4)
       (try rw [Addr.add_zero'] at hx293_4)
       (try rw [show ((0 : Int)).toNat = 0 from rfl] at hx293_5)
       (try rw [show 0 * 7 = 0 from rfl] at hx293_5)
       (try rw [Addr.add_zero'] at hx293_5)
       (try rw [show ((0 : Int)).toNat = 0 from rfl] at hx293_6)
       (try rw [show 0 * 7 = 0 from rfl] at hx293_6)
       (try rw [Addr.add_zero'] at hx293_6)
       replace p293 := eq_true p293
       replace q293 := eq_true q293
       go_wp2_with (first | ((with_reducible refine gate_callee (f := 48) rfl ?_); refine goesL_ (some 25) rfl rfl Try.func48 (by kernel_rfl) rfl #[.pointer (some ⟨g, 0, none⟩), .agg #[.int .i64 ((rd_T46 x3_1 0).f0), .int .i64 ((rd_T46 x3_1 0).f1), .int .i64 ((rd_T46 x3_1 0).f2), .int .i64 ((rd_T46 x3_1 0).f3), .int .i64 ((rd_T46 x3_1 0).f4), .int .i64 ((rd_T46 x3_1 0).f5), .int .i64 ((rd_T46 x3_1 0).f6)]] rfl (by (try simp only [List.map_toArray, List.map_cons, List.map_nil]); first | done | rfl | (simp only [List.length_drop, List.length_take]; rfl)) ?_; (with_reducible refine (spec_l31Bad.calls k1 g s0_0 x1001_1 ((rd_T46 x3_1 0).f0) ((rd_T46 x3_1 0).f1) ((rd_T46 x3_1 0).f2) ((rd_T46 x3_1 0).f3) ((rd_T46 x3_1 0).f4) ((rd_T46 x3_1 0).f5) ((rd_T46 x3_1 0).f6) t294 t295 t296 t297 t298 t299 t300 t301 w0 _ ?side1 ?side2 A15.out).mono ?_); (case side1 => repeat (first | (with_reducible first | exact HI0.out | apply IsS67.alloc | apply IsS67.drewN | apply IsS67.drew | apply IsS67.set_1) | exact HI0.out)); (case side2 => repeat (first | (with_reducible first | exact HB.out | apply yA | apply yN | apply yD | refine yS ?_ (IsS67.ge HI0.out)) | exact HB.out)); rintro e w18 ⟨rfl, hi, hb, hk⟩; refine ⟨_, rfl, ?_⟩; have n0_ := qM (Kd.R_mono (Kd.R_keep (IsS67.apart (show IsS67 w0 _ g s0_0 x1001_1 from by repeat (first | (with_reducible first | exact HI0.out | apply IsS67.alloc | apply IsS67.drewN | apply IsS67.drew | apply IsS67.set_1) | exact HI0.out)) (by (with_reducible repeat (first | apply qA | apply qN | apply qD)); exact HO_3.out) (by decide)) hk (fun _ h => h.2)) (fun _ h => h.1)); have n1_ := qM (KeepBut.trans (by repeat (first | (with_reducible first | exact HK.out | apply KeepBut.set_ | apply keep_drewN | apply keep_drew | apply keep_alloc) | exact HK.out)) hk (.inl rfl)); have n2_ := qM (hb); have n3_ := qM (hi); clear HO_3; clear HK; clear HB; clear HI0; have HO_3 := n0_; have HK := n1_; have HB := n2_; have HI0 := n3_; clear n0_ n1_ n2_ n3_; (try clear hb); (try clear hb2); (try clear hk); (try clear hi); have p16 : 0 ≤ (0 : Int) := (by omega); have q16 : (0 : Int) < ((x3_1.length : Int) : Int) := of_decide_eq_true (by first | (with_reducible assumption) | assumption); have qi16 : (0 < x3_1.length) = True := eq_true (by omega); obtain ⟨go16, co16, eo16, gb16, gl16, cl16, HG16⟩ := Kd.R_form HO_3.out (by omega); (first | cases eo16 | (injection eo16 with ea_ en_ ec_; (first | subst ea_ | (injection ea_ with ea_; subst ea_)); subst ec_; clear en_)); have GB16 := qM gb16; have GG16 := qM HG16; clear gb16 gl16 HG16; (first | simp only [add_plain] at hx293_0 | skip); (first | simp only [add_plain] at hx293_1 | skip); (first | simp only [add_plain] at hx293_2 | skip); (first | simp only [add_plain] at hx293_3 | skip); (first | simp only [add_plain] at hx293_4 | skip); (first | simp only [add_plain] at hx293_5 | skip); (first | simp only [add_plain] at hx293_6 | skip); obtain ⟨ce16, hcl16, hM16, hcc16, hfr16⟩ := Kd.R_elem HO_3.out z46 (0 : Int) p16 q16; obtain rfl := k46_openM hM16; have hx16_0 : w18.cell? ⟨go16, (0 : Int).toNat * 7, none⟩ = some (.int .i64 ((rd_T46 x3_1 0).f0)) := hcc16 0 _ rfl; have hx16_1 : w18.cell? ⟨go16, (0 : Int).toNat * 7 + 1, none⟩ = some (.int .i64 ((rd_T46 x3_1 0).f1)) := hcc16 1 _ rfl; have hx16_2 : w18.cell? ⟨go16, (0 : Int).toNat * 7 + 2, none⟩ = some (.int .i64 ((rd_T46 x3_1 0).f2)) := hcc16 2 _ rfl; have hx16_3 : w18.cell? ⟨go16, (0 : Int).toNat * 7 + 3, none⟩ = some (.int .i64 ((rd_T46 x3_1 0).f3)) := hcc16 3 _ rfl; have hx16_4 : w18.cell? ⟨go16, (0 : Int).toNat * 7 + 4, none⟩ = some (.int .i64 ((rd_T46 x3_1 0).f4)) := hcc16 4 _ rfl; have hx16_5 : w18.cell? ⟨go16, (0 : Int).toNat * 7 + 5, none⟩ = some (.int .i64 ((rd_T46 x3_1 0).f5)) := hcc16 5 _ rfl; have hx16_6 : w18.cell? ⟨go16, (0 : Int).toNat * 7 + 6, none⟩ = some (.int .i64 ((rd_T46 x3_1 0).f6)) := hcc16 6 _ rfl; have hf16_0 : w18.frozen? ⟨go16, (0 : Int).toNat * 7, none⟩ = false := hfr16 0; have hf16_1 : w18.frozen? ⟨go16, (0 : Int).toNat * 7 + 1, none⟩ = false := hfr16 1; have hf16_2 : w18.frozen? ⟨go16, (0 : Int).toNat * 7 + 2, none⟩ = false := hfr16 2; have hf16_3 : w18.frozen? ⟨go16, (0 : Int).toNat * 7 + 3, none⟩ = false := hfr16 3; have hf16_4 : w18.frozen? ⟨go16, (0 : Int).toNat * 7 + 4, none⟩ = false := hfr16 4; have hf16_5 : w18.frozen? ⟨go16, (0 : Int).toNat * 7 + 5, none⟩ = false := hfr16 5; have hf16_6 : w18.frozen? ⟨go16, (0 : Int).toNat * 7 + 6, none⟩ = false := hfr16 6; clear hcl16 hcc16 hfr16 hM16; (try rw [show ((0 : Int)).toNat = 0 from rfl] at hx16_0); (try simp only [Nat.reduceMul, Nat.zero_mul, Nat.zero_add, Nat.reduceAdd] at hx16_0); (try rw [show ((0 : Int)).toNat = 0 from rfl] at hf16_0); (try simp only [Nat.reduceMul, Nat.zero_mul, Nat.zero_add, Nat.reduceAdd] at hf16_0); (try rw [show ((0 : Int)).toNat = 0 from rfl] at hx16_1); (try simp only [Nat.reduceMul, Nat.zero_mul, Nat.zero_add, Nat.reduceAdd] at hx16_1); (try rw [show ((0 : Int)).toNat = 0 from rfl] at hf16_1); (try simp only [Nat.reduceMul, Nat.zero_mul, Nat.zero_add, Nat.reduceAdd] at hf16_1); (try rw [show ((0 : Int)).toNat = 0 from rfl] at hx16_2); (try simp only [Nat.reduceMul, Nat.zero_mul, Nat.zero_add, Nat.reduceAdd] at hx16_2); (try rw [show ((0 : Int)).toNat = 0 from rfl] at hf16_2); (try simp only [Nat.reduceMul, Nat.zero_mul, Nat.zero_add, Nat.reduceAdd] at hf16_2); (try rw [show ((0 : Int)).toNat = 0 from rfl] at hx16_3); (try simp only [Nat.reduceMul, Nat.zero_mul, Nat.zero_add, Nat.reduceAdd] at hx16_3); (try rw [show ((0 : Int)).toNat = 0 from rfl] at hf16_3); (try simp only [Nat.reduceMul, Nat.zero_mul, Nat.zero_add, Nat.reduceAdd] at hf16_3); (try rw [show ((0 : Int)).toNat = 0 from rfl] at hx16_4); (try simp only [Nat.reduceMul, Nat.zero_mul, Nat.zero_add, Nat.reduceAdd] at hx16_4); (try rw [show ((0 : Int)).toNat = 0 from rfl] at hf16_4); (try simp only [Nat.reduceMul, Nat.zero_mul, Nat.zero_add, Nat.reduceAdd] at hf16_4); (try rw [show ((0 : Int)).toNat = 0 from rfl] at hx16_5); (try simp only [Nat.reduceMul, Nat.zero_mul, Nat.zero_add, Nat.reduceAdd] at hx16_5); (try rw [show ((0 : Int)).toNat = 0 from rfl] at hf16_5); (try simp only [Nat.reduceMul, Nat.zero_mul, Nat.zero_add, Nat.reduceAdd] at hf16_5); (try rw [show ((0 : Int)).toNat = 0 from rfl] at hx16_6); (try simp only [Nat.reduceMul, Nat.zero_mul, Nat.zero_add, Nat.reduceAdd] at hx16_6); (try rw [show ((0 : Int)).toNat = 0 from rfl] at hf16_6); (try simp only [Nat.reduceMul, Nat.zero_mul, Nat.zero_add, Nat.reduceAdd] at hf16_6); replace p16 := eq_true p16; replace q16 := eq_true q16; have HX19 := qM (show Kd.R k46 46 w18 w.heap.size (fun _ => True) (.slice (some ⟨go16, 0, none⟩) x3_1.length co17) x3_1 from (by (with_reducible repeat (first | apply qA | apply qN | apply qD)); exact HO_3.out)); obtain ⟨ce19, hcl19, hM19, hcc19, hfr19⟩ := Kd.R_elem HX19.out z46 (0 : Int) (by omega) (by have h_ : (0 : Int) < ((x3_1.length : Int) : Int) := of_decide_eq_true (by first | (with_reducible assumption) | assumption); first | exact h_ | (have e_ := (qR HO_3.out).1; omega) | simpa using h_); obtain rfl := k46_openM hM19; have HP19 := Kd.R_seg HX19.out (0 : Int) (by omega) (by have h_ : (0 : Int) < ((x3_1.length : Int) : Int) := of_decide_eq_true (by first | (with_reducible assumption) | assumption); first | exact h_ | (have e_ := (qR HO_3.out).1; omega) | simpa using h_) (seg := [.int .i64 t294, .int .i64 t295, .int .i64 t296, .int .i64 t297, .int .i64 t298, .int .i64 t299, .int .i64 t300]) (j := 0) hcl19 hcc19 (show 7 ≤ 7 from by decide) (x' := (⟨t294, t295, t296, t297, t298, t299, t300⟩ : S46)) (k46_mkM _ _ _ (⟨t294, t295, t296, t297, t298, t299, t300⟩ : S46) ) (fun _ hk => hk); have hx19_0 := hcc19 0 _ rfl; (try simp only [show (k46).sz = 7 from rfl, Nat.mul_one, Nat.add_zero] at hx19_0); (try rw [show ((0 : Int)).toNat = 0 from rfl] at hx19_0); (try simp only [Nat.reduceMul, Nat.zero_mul, Nat.zero_add, Nat.reduceAdd] at hx19_0); have hf19_0 := hfr19 0; (try simp only [show (k46).sz = 7 from rfl, Nat.mul_one, Nat.add_zero] at hf19_0); (try rw [show ((0 : Int)).toNat = 0 from rfl] at hf19_0); (try simp only [Nat.reduceMul, Nat.zero_mul, Nat.zero_add, Nat.reduceAdd] at hf19_0); have hx19_1 := hcc19 1 _ rfl; (try simp only [show (k46).sz = 7 from rfl, Nat.mul_one, Nat.add_zero] at hx19_1); (try rw [show ((0 : Int)).toNat = 0 from rfl] at hx19_1); (try simp only [Nat.reduceMul, Nat.zero_mul, Nat.zero_add, Nat.reduceAdd] at hx19_1); have hf19_1 := hfr19 1; (try simp only [show (k46).sz = 7 from rfl, Nat.mul_one, Nat.add_zero] at hf19_1); (try rw [show ((0 : Int)).toNat = 0 from rfl] at hf19_1); (try simp only [Nat.reduceMul, Nat.zero_mul, Nat.zero_add, Nat.reduceAdd] at hf19_1); have hx19_2 := hcc19 2 _ rfl; (try simp only [show (k46).sz = 7 from rfl, Nat.mul_one, Nat.add_zero] at hx19_2); (try rw [show ((0 : Int)).toNat = 0 from rfl] at hx19_2); (try simp only [Nat.reduceMul, Nat.zero_mul, Nat.zero_add, Nat.reduceAdd] at hx19_2); have hf19_2 := hfr19 2; (try simp only [show (k46).sz = 7 from rfl, Nat.mul_one, Nat.add_zero] at hf19_2); (try rw [show ((0 : Int)).toNat = 0 from rfl] at hf19_2); (try simp only [Nat.reduceMul, Nat.zero_mul, Nat.zero_add, Nat.reduceAdd] at hf19_2); have hx19_3 := hcc19 3 _ rfl; (try simp only [show (k46).sz = 7 from rfl, Nat.mul_one, Nat.add_zero] at hx19_3); (try rw [show ((0 : Int)).toNat = 0 from rfl] at hx19_3); (try simp only [Nat.reduceMul, Nat.zero_mul, Nat.zero_add, Nat.reduceAdd] at hx19_3); have hf19_3 := hfr19 3; (try simp only [show (k46).sz = 7 from rfl, Nat.mul_one, Nat.add_zero] at hf19_3); (try rw [show ((0 : Int)).toNat = 0 from rfl] at hf19_3); (try simp only [Nat.reduceMul, Nat.zero_mul, Nat.zero_add, Nat.reduceAdd] at hf19_3); have hx19_4 := hcc19 4 _ rfl; (try simp only [show (k46).sz = 7 from rfl, Nat.mul_one, Nat.add_zero] at hx19_4); (try rw [show ((0 : Int)).toNat = 0 from rfl] at hx19_4); (try simp only [Nat.reduceMul, Nat.zero_mul, Nat.zero_add, Nat.reduceAdd] at hx19_4); have hf19_4 := hfr19 4; (try simp only [show (k46).sz = 7 from rfl, Nat.mul_one, Nat.add_zero] at hf19_4); (try rw [show ((0 : Int)).toNat = 0 from rfl] at hf19_4); (try simp only [Nat.reduceMul, Nat.zero_mul, Nat.zero_add, Nat.reduceAdd] at hf19_4); have hx19_5 := hcc19 5 _ rfl; (try simp only [show (k46).sz = 7 from rfl, Nat.mul_one, Nat.add_zero] at hx19_5); (try rw [show ((0 : Int)).toNat = 0 from rfl] at hx19_5); (try simp only [Nat.reduceMul, Nat.zero_mul, Nat.zero_add, Nat.reduceAdd] at hx19_5); have hf19_5 := hfr19 5; (try simp only [show (k46).sz = 7 from rfl, Nat.mul_one, Nat.add_zero] at hf19_5); (try rw [show ((0 : Int)).toNat = 0 from rfl] at hf19_5); (try simp only [Nat.reduceMul, Nat.zero_mul, Nat.zero_add, Nat.reduceAdd] at hf19_5); have hx19_6 := hcc19 6 _ rfl; (try simp only [show (k46).sz = 7 from rfl, Nat.mul_one, Nat.add_zero] at hx19_6); (try rw [show ((0 : Int)).toNat = 0 from rfl] at hx19_6); (try simp only [Nat.reduceMul, Nat.zero_mul, Nat.zero_add, Nat.reduceAdd] at hx19_6); have hf19_6 := hfr19 6; (try simp only [show (k46).sz = 7 from rfl, Nat.mul_one, Nat.add_zero] at hf19_6); (try rw [show ((0 : Int)).toNat = 0 from rfl] at hf19_6); (try simp only [Nat.reduceMul, Nat.zero_mul, Nat.zero_add, Nat.reduceAdd] at hf19_6); clear hcl19 hcc19 hfr19 hM19) | ((with_reducible refine gate_store (t := 46) (p := 26) rfl ?_); refine store_event (t := 46) (p := 26) (v := ?vo_w20) (w1 := (((((((w18.setCell ⟨go16, 0, none⟩ (.int .i64 t294)).setCell ⟨go16, 1, none⟩ (.int .i64 t295)).setCell ⟨go16, 2, none⟩ (.int .i64 t296)).setCell ⟨go16, 3, none⟩ (.int .i64 t297)).setCell ⟨go16, 4, none⟩ (.int .i64 t298)).setCell ⟨go16, 5, none⟩ (.int .i64 t299)).setCell ⟨go16, 6, none⟩ (.int .i64 t300))) ?hg ?ho ?hn ?hr ?_; (case ho => rfl); (case hg => rfl); (case hn => rfl); (case hr => first | (go_simp; done) | (go_simp; rfl)); intro w20 hw; have hg : w18.grownBy w20 (some go16) := (by rw [hw]; exact HP19.2); have hp_ : Kd.R k46 46 w20 w.heap.size (fun _ => True) (.slice (some ⟨go16, 0, none⟩) x3_1.length co17) y302 := (by rw [hw, Ny302.out]; exact HP19.1); clear HP19; have n0_ := qM (hp_); have n1_ := qM (IsS67.grown (by repeat (first | (with_reducible first | exact HI0.out | apply IsS67.alloc | apply IsS67.drewN | apply IsS67.drew | apply IsS67.set_1) | exact HI0.out)) hg (IsS67.own_ne HI0.out HO_3.out (by decide))); have n2_ := qM ((by rw [hw]; exact yS (yS (yS (yS (yS (yS (yS (HB.out) (Nat.le_trans HL.out GB16.out)) (Nat.le_trans HL.out GB16.out)) (Nat.le_trans HL.out GB16.out)) (Nat.le_trans HL.out GB16.out)) (Nat.le_trans HL.out GB16.out)) (Nat.le_trans HL.out GB16.out)) (Nat.le_trans HL.out GB16.out) : Below w0.heap.size w0 w20)); have n3_ := qM (KeepBut.trans (by repeat (first | (with_reducible first | exact HK.out | apply KeepBut.set_ | apply keep_drewN | apply keep_drew | apply keep_alloc) | exact HK.out)) (KeepBut.of_grown hg g) (Kd.R_base2 HO_3.out)); clear HO_3; clear HI0; clear HB; clear HK; have HO_3 := n0_; have HI0 := n1_; have HB := n2_; have HK := n3_; clear n0_ n1_ n2_ n3_; clear hg hw hp_))
       go_ret
       exact ⟨_, by first | rfl | (simp [errW_none, errW_some] <;> rfl) | (simp [*, errW_none, errW_some] <;> rfl), by (with_reducible repeat (first | apply qA | apply qN | apply qD)); exact HO_3.out, by repeat (first | (with_reducible first | exact HI0.out | apply IsS67.alloc | apply IsS67.drewN | apply IsS67.drew | apply IsS67.set_1) | exact HI0.out), by repeat (first | (with_reducible first | exact HB.out | apply yA | apply yN | apply yD | refine yS ?_ (IsS67.ge HI0.out)) | exact HB.out), by repeat (first | (with_reducible first | exact HK.out | apply KeepBut.set_ | apply keep_drewN | apply keep_drew | apply keep_alloc) | exact HK.out)⟩
      ·rw [if_neg c14] at H
       exact absurd H (by simp)
     ·rw [if_neg c13] at H
      have c13b0 : decide (0 < (x3_1.length : Int)) = false := decide_eq_false c13
      have c13b1 : decide (0 < x3_1.length) = false := decide_eq_false (by omega)
      clear c13
      simp only [Option.some.injEq, Prod.mk.injEq] at H
      obtain ⟨rfl, rfl⟩ := H
      obtain ⟨Ao21, co21, eo21⟩ := Kd.R_slice HO_3.out
      subst eo21
      go_wp2
      go_ret
      exact ⟨_, by first | rfl | (simp [errW_none, errW_some] <;> rfl) | (simp [*, errW_none, errW_some] <;> rfl), by (with_reducible repeat (first | apply qA | apply qN | apply qD)); exact HO_3.out, by repeat (first | (with_reducible first | exact HI0.out | apply IsS67.alloc | apply IsS67.drewN | apply IsS67.drew | apply IsS67.set_1) | exact HI0.out), by repeat (first | (with_reducible first | exact HB.out | apply yA | apply yN | apply yD | refine yS ?_ (IsS67.ge HI0.out)) | exact HB.out), by repeat (first | (with_reducible first | exact HK.out | apply KeepBut.set_ | apply keep_drewN | apply keep_drew | apply keep_alloc) | exact HK.out)⟩
 ·rw [if_neg c4] at H
  have c4b0 : (t280 == 0) = false := beq_eq_false_iff_ne.mpr c4
  have c4b1 : (t280 != 0) = true := bne_iff_ne.mpr c4
  by_cases c22 : (t276.length : Int) > 0
  ·rw [if_pos c22] at H
   have c22b0 : decide (0 < (t276.length : Int)) = true := decide_eq_true c22
   have c22b1 : decide (0 < t276.length) = true := decide_eq_true (by omega)
   clear c22
   by_cases c23 : 0 < (t276.length : Int)
   ·rw [if_pos c23] at H
    have c23b0 : decide (0 < (t276.length : Int)) = true := decide_eq_true c23
    have c23b1 : decide (0 < t276.length) = true := decide_eq_true (by omega)
    clear c23
    replace H := Option.bind_eq_some_iff.mp H
    obtain ⟨⟨t304, t305, t306, t307, t308, t309, t310, t311⟩, A240, H⟩ := H
    replace H : (some ((t276.set (0 : Int).toNat (⟨t304, t305, t306, t307, t308, t309, t310⟩ : S46)), t311)) = some (r1, r2) := H
    have A24 := qM A240
    clear A240
    obtain ⟨y312, hy312⟩ : ∃ y_ : List (S46), y_ = (t276.set (0 : Int).toNat (⟨t304, t305, t306, t307, t308, t309, t310⟩ : S46)) := ⟨_, rfl⟩
    replace H : (some (y312, t311)) = some (r1, r2) := by first | (rw [hy312]; with_reducible exact H) | (have H2_ := (Option.bind_some _ _).symm.trans H; rw [hy312]; with_reducible exact H2_) | (have H2_ := (Option.bind_some _ _).symm.trans H; with_reducible exact H2_) | with_reducible exact H | (rw [hy312]; exact H) | exact H
    have Ny312 := qM hy312
    clear hy312
    simp only [Option.some.injEq, Prod.mk.injEq] at H
    obtain ⟨rfl, rfl⟩ := H
    go_enter Try.func47, Try.ntmps47
    go_wp2_with (first | ((with_reducible refine gate_callee (f := 52) rfl ?_); refine goesL_ (some 5) rfl rfl Try.func52 (by kernel_rfl) rfl #[.pointer (some ⟨g, 0, none⟩)] rfl (by (try simp only [List.map_toArray, List.map_cons, List.map_nil]); first | done | rfl | (simp only [List.length_drop, List.length_take]; rfl)) ?_; (with_reducible refine (spec_l31Guard.calls k g s0_0 s0_1 t276 t279 w0 _ ?side1 ?side2 A2.out).mono ?_); (case side1 => repeat (first | (with_reducible first | exact HI0.out | apply IsS67.alloc | apply IsS67.drewN | apply IsS67.drew | apply IsS67.set_1) | exact HI0.out)); (case side2 => repeat (first | (with_reducible first | exact HB.out | apply yA | apply yN | apply yD | refine yS ?_ (IsS67.ge HI0.out)) | exact HB.out)); rintro e w26 ⟨v277, rfl, ho0, hi, hb, hk⟩; refine ⟨_, rfl, ?_⟩; have n0_ := qM (Kd.R_lower ho0 (keep_size (w := w) (g := g) (row := none) (by repeat (first | (with_reducible first | exact HK.out | apply KeepBut.set_ | apply keep_drewN | apply keep_drew | apply keep_alloc) | exact HK.out)))); have n1_ := qM (KeepBut.trans (by repeat (first | (with_reducible first | exact HK.out | apply KeepBut.set_ | apply keep_drewN | apply keep_drew | apply keep_alloc) | exact HK.out)) hk (.inl rfl)); have n2_ := qM (hb); have n3_ := qM (hi); clear HK; clear HB; clear HI0; have HO278 := n0_; have HK := n1_; have HB := n2_; have HI0 := n3_; clear n0_ n1_ n2_ n3_; (try clear hb); (try clear hb2); (try clear hk); (try clear hi); (try clear ho0)) | ((with_reducible refine gate_callee (f := 39) rfl ?_); refine goesL_ (some 7) rfl rfl Try.func39 (by kernel_rfl) rfl #[.pointer (some ⟨g, 0, none⟩), .int .i64 12] rfl (by (try simp only [List.map_toArray, List.map_cons, List.map_nil]); first | done | rfl | (simp only [List.length_drop, List.length_take]; rfl)) ?_; (with_reducible refine (spec_l30Rd_pick.calls k g s0_0 t279 12 t280 t281 w0 _ ?side1 ?side2 A3.out).mono ?_); (case side1 => repeat (first | (with_reducible first | exact HI0.out | apply IsS67.alloc | apply IsS67.drewN | apply IsS67.drew | apply IsS67.set_1) | exact HI0.out)); (case side2 => repeat (first | (with_reducible first | exact HB.out | apply yA | apply yN | apply yD | refine yS ?_ (IsS67.ge HI0.out)) | exact HB.out)); rintro e w27 ⟨rfl, hi, hb, hk⟩; refine ⟨_, rfl, ?_⟩; have n0_ := qM (Kd.R_mono (Kd.R_keep (IsS67.apart (show IsS67 w0 _ g s0_0 t279 from by repeat (first | (with_reducible first | exact HI0.out | apply IsS67.alloc | apply IsS67.drewN | apply IsS67.drew | apply IsS67.set_1) | exact HI0.out)) (by (with_reducible repeat (first | apply qA | apply qN | apply qD)); exact HO278.out) (by decide)) hk (fun _ h => h.2)) (fun _ h => h.1)); have n1_ := qM (KeepBut.trans (by repeat (first | (with_reducible first | exact HK.out | apply KeepBut.set_ | apply keep_drewN | apply keep_drew | apply keep_alloc) | exact HK.out)) hk (.inl rfl)); have n2_ := qM (hb); have n3_ := qM (hi); clear HO278; clear HK; clear HB; clear HI0; have HO278 := n0_; have HK := n1_; have HB := n2_; have HI0 := n3_; clear n0_ n1_ n2_ n3_; (try clear hb); (try clear hb2); (try clear hk); (try clear hi); obtain ⟨Ao28, co28, eo28⟩ := Kd.R_slice HO278.out; subst eo28; have p303 : 0 ≤ (0 : Int) := (by omega); have q303 : 0 < (t276.length : Int) := of_decide_eq_true (by first | (with_reducible assumption) | assumption); obtain ⟨ad303, e303, hx303_0, hx303_1, hx303_2, hx303_3, hx303_4, hx303_5, hx303_6⟩ := at_T46 (qR HO278.out).2.2 0 p303 q303; cases e303; have qi303 : (0 < t276.length) = True := eq_true (by omega); (try rw [show ((0 : Int)).toNat = 0 from rfl] at hx303_0); (try rw [show 0 * 7 = 0 from rfl] at hx303_0); (try rw [Addr.add_zero'] at hx303_0); (try rw [show ((0 : Int)).toNat = 0 from rfl] at hx303_1); (try rw [show 0 * 7 = 0 from rfl] at hx303_1); (try rw [Addr.add_zero'] at hx303_1); (try rw [show ((0 : Int)).toNat = 0 from rfl] at hx303_2); (try rw [show 0 * 7 = 0 from rfl] at hx303_2); (try rw [Addr.add_zero'] at hx303_2); (try rw [show ((0 : Int)).toNat = 0 from rfl] at hx303_3); (try rw [show 0 * 7 = 0 from rfl] at hx303_3); (try rw [Addr.add_zero'] at hx303_3); (try rw [show ((0 : Int)).toNat = 0 from rfl] at hx303_4); (try rw [show 0 * 7 = 0 from rfl] at hx303_4); (try rw [Addr.add_zero'] at hx303_4); (try rw [show ((0 : Int)).toNat = 0 from rfl] at hx303_5); (try rw [show 0 * 7 = 0 from rfl] at hx303_5); (try rw [Addr.add_zero'] at hx303_5); (try rw [show ((0 : Int)).toNat = 0 from rfl] at hx303_6); (try rw [show 0 * 7 = 0 from rfl] at hx303_6); (try rw [Addr.add_zero'] at hx303_6); replace p303 := eq_true p303; replace q303 := eq_true q303) | ((with_reducible refine gate_callee (f := 48) rfl ?_); refine goesL_ (some 25) rfl rfl Try.func48 (by kernel_rfl) rfl #[.pointer (some ⟨g, 0, none⟩), .agg #[.int .i64 ((rd_T46 t276 0).f0), .int .i64 ((rd_T46 t276 0).f1), .int .i64 ((rd_T46 t276 0).f2), .int .i64 ((rd_T46 t276 0).f3), .int .i64 ((rd_T46 t276 0).f4), .int .i64 ((rd_T46 t276 0).f5), .int .i64 ((rd_T46 t276 0).f6)]] rfl (by (try simp only [List.map_toArray, List.map_cons, List.map_nil]); first | done | rfl | (simp only [List.length_drop, List.length_take]; rfl)) ?_; (with_reducible refine (spec_l31Bad.calls k g s0_0 t281 ((rd_T46 t276 0).f0) ((rd_T46 t276 0).f1) ((rd_T46 t276 0).f2) ((rd_T46 t276 0).f3) ((rd_T46 t276 0).f4) ((rd_T46 t276 0).f5) ((rd_T46 t276 0).f6) t304 t305 t306 t307 t308 t309 t310 t311 w0 _ ?side1 ?side2 A24.out).mono ?_); (case side1 => repeat (first | (with_reducible first | exact HI0.out | apply IsS67.alloc | apply IsS67.drewN | apply IsS67.drew | apply IsS67.set_1) | exact HI0.out)); (case side2 => repeat (first | (with_reducible first | exact HB.out | apply yA | apply yN | apply yD | refine yS ?_ (IsS67.ge HI0.out)) | exact HB.out)); rintro e w29 ⟨rfl, hi, hb, hk⟩; refine ⟨_, rfl, ?_⟩; have n0_ := qM (Kd.R_mono (Kd.R_keep (IsS67.apart (show IsS67 w0 _ g s0_0 t281 from by repeat (first | (with_reducible first | exact HI0.out | apply IsS67.alloc | apply IsS67.drewN | apply IsS67.drew | apply IsS67.set_1) | exact HI0.out)) (by (with_reducible repeat (first | apply qA | apply qN | apply qD)); exact HO278.out) (by decide)) hk (fun _ h => h.2)) (fun _ h => h.1)); have n1_ := qM (KeepBut.trans (by repeat (first | (with_reducible first | exact HK.out | apply KeepBut.set_ | apply keep_drewN | apply keep_drew | apply keep_alloc) | exact HK.out)) hk (.inl rfl)); have n2_ := qM (hb); have n3_ := qM (hi); clear HO278; clear HK; clear HB; clear HI0; have HO278 := n0_; have HK := n1_; have HB := n2_; have HI0 := n3_; clear n0_ n1_ n2_ n3_; (try clear hb); (try clear hb2); (try clear hk); (try clear hi); have p25 : 0 ≤ (0 : Int) := (by omega); have q25 : (0 : Int) < ((t276.length : Int) : Int) := of_decide_eq_true (by first | (with_reducible assumption) | assumption); have qi25 : (0 < t276.length) = True := eq_true (by omega); obtain ⟨go25, co25, eo25, gb25, gl25, cl25, HG25⟩ := Kd.R_form HO278.out (by omega); (first | cases eo25 | (injection eo25 with ea_ en_ ec_; (first | subst ea_ | (injection ea_ with ea_; subst ea_)); subst ec_; clear en_)); have GB25 := qM gb25; have GG25 := qM HG25; clear gb25 gl25 HG25; (first | simp only [add_plain] at hx303_0 | skip); (first | simp only [add_plain] at hx303_1 | skip); (first | simp only [add_plain] at hx303_2 | skip); (first | simp only [add_plain] at hx303_3 | skip); (first | simp only [add_plain] at hx303_4 | skip); (first | simp only [add_plain] at hx303_5 | skip); (first | simp only [add_plain] at hx303_6 | skip); obtain ⟨ce25, hcl25, hM25, hcc25, hfr25⟩ := Kd.R_elem HO278.out z46 (0 : Int) p25 q25; obtain rfl := k46_openM hM25; have hx25_0 : w29.cell? ⟨go25, (0 : Int).toNat * 7, none⟩ = some (.int .i64 ((rd_T46 t276 0).f0)) := hcc25 0 _ rfl; have hx25_1 : w29.cell? ⟨go25, (0 : Int).toNat * 7 + 1, none⟩ = some (.int .i64 ((rd_T46 t276 0).f1)) := hcc25 1 _ rfl; have hx25_2 : w29.cell? ⟨go25, (0 : Int).toNat * 7 + 2, none⟩ = some (.int .i64 ((rd_T46 t276 0).f2)) := hcc25 2 _ rfl; have hx25_3 : w29.cell? ⟨go25, (0 : Int).toNat * 7 + 3, none⟩ = some (.int .i64 ((rd_T46 t276 0).f3)) := hcc25 3 _ rfl; have hx25_4 : w29.cell? ⟨go25, (0 : Int).toNat * 7 + 4, none⟩ = some (.int .i64 ((rd_T46 t276 0).f4)) := hcc25 4 _ rfl; have hx25_5 : w29.cell? ⟨go25, (0 : Int).toNat * 7 + 5, none⟩ = some (.int .i64 ((rd_T46 t276 0).f5)) := hcc25 5 _ rfl; have hx25_6 : w29.cell? ⟨go25, (0 : Int).toNat * 7 + 6, none⟩ = some (.int .i64 ((rd_T46 t276 0).f6)) := hcc25 6 _ rfl; have hf25_0 : w29.frozen? ⟨go25, (0 : Int).toNat * 7, none⟩ = false := hfr25 0; have hf25_1 : w29.frozen? ⟨go25, (0 : Int).toNat * 7 + 1, none⟩ = false := hfr25 1; have hf25_2 : w29.frozen? ⟨go25, (0 : Int).toNat * 7 + 2, none⟩ = false := hfr25 2; have hf25_3 : w29.frozen? ⟨go25, (0 : Int).toNat * 7 + 3, none⟩ = false := hfr25 3; have hf25_4 : w29.frozen? ⟨go25, (0 : Int).toNat * 7 + 4, none⟩ = false := hfr25 4; have hf25_5 : w29.frozen? ⟨go25, (0 : Int).toNat * 7 + 5, none⟩ = false := hfr25 5; have hf25_6 : w29.frozen? ⟨go25, (0 : Int).toNat * 7 + 6, none⟩ = false := hfr25 6; clear hcl25 hcc25 hfr25 hM25; (try rw [show ((0 : Int)).toNat = 0 from rfl] at hx25_0); (try simp only [Nat.reduceMul, Nat.zero_mul, Nat.zero_add, Nat.reduceAdd] at hx25_0); (try rw [show ((0 : Int)).toNat = 0 from rfl] at hf25_0); (try simp only [Nat.reduceMul, Nat.zero_mul, Nat.zero_add, Nat.reduceAdd] at hf25_0); (try rw [show ((0 : Int)).toNat = 0 from rfl] at hx25_1); (try simp only [Nat.reduceMul, Nat.zero_mul, Nat.zero_add, Nat.reduceAdd] at hx25_1); (try rw [show ((0 : Int)).toNat = 0 from rfl] at hf25_1); (try simp only [Nat.reduceMul, Nat.zero_mul, Nat.zero_add, Nat.reduceAdd] at hf25_1); (try rw [show ((0 : Int)).toNat = 0 from rfl] at hx25_2); (try simp only [Nat.reduceMul, Nat.zero_mul, Nat.zero_add, Nat.reduceAdd] at hx25_2); (try rw [show ((0 : Int)).toNat = 0 from rfl] at hf25_2); (try simp only [Nat.reduceMul, Nat.zero_mul, Nat.zero_add, Nat.reduceAdd] at hf25_2); (try rw [show ((0 : Int)).toNat = 0 from rfl] at hx25_3); (try simp only [Nat.reduceMul, Nat.zero_mul, Nat.zero_add, Nat.reduceAdd] at hx25_3); (try rw [show ((0 : Int)).toNat = 0 from rfl] at hf25_3); (try simp only [Nat.reduceMul, Nat.zero_mul, Nat.zero_add, Nat.reduceAdd] at hf25_3); (try rw [show ((0 : Int)).toNat = 0 from rfl] at hx25_4); (try simp only [Nat.reduceMul, Nat.zero_mul, Nat.zero_add, Nat.reduceAdd] at hx25_4); (try rw [show ((0 : Int)).toNat = 0 from rfl] at hf25_4); (try simp only [Nat.reduceMul, Nat.zero_mul, Nat.zero_add, Nat.reduceAdd] at hf25_4); (try rw [show ((0 : Int)).toNat = 0 from rfl] at hx25_5); (try simp only [Nat.reduceMul, Nat.zero_mul, Nat.zero_add, Nat.reduceAdd] at hx25_5); (try rw [show ((0 : Int)).toNat = 0 from rfl] at hf25_5); (try simp only [Nat.reduceMul, Nat.zero_mul, Nat.zero_add, Nat.reduceAdd] at hf25_5); (try rw [show ((0 : Int)).toNat = 0 from rfl] at hx25_6); (try simp only [Nat.reduceMul, Nat.zero_mul, Nat.zero_add, Nat.reduceAdd] at hx25_6); (try rw [show ((0 : Int)).toNat = 0 from rfl] at hf25_6); (try simp only [Nat.reduceMul, Nat.zero_mul, Nat.zero_add, Nat.reduceAdd] at hf25_6); replace p25 := eq_true p25; replace q25 := eq_true q25; have HX30 := qM (show Kd.R k46 46 w29 w.heap.size (fun _ => True) (.slice (some ⟨go25, 0, none⟩) t276.length co28) t276 from (by (with_reducible repeat (first | apply qA | apply qN | apply qD)); exact HO278.out)); obtain ⟨ce30, hcl30, hM30, hcc30, hfr30⟩ := Kd.R_elem HX30.out z46 (0 : Int) (by omega) (by have h_ : (0 : Int) < ((t276.length : Int) : Int) := of_decide_eq_true (by first | (with_reducible assumption) | assumption); first | exact h_ | (have e_ := (qR HO278.out).1; omega) | simpa using h_); obtain rfl := k46_openM hM30; have HP30 := Kd.R_seg HX30.out (0 : Int) (by omega) (by have h_ : (0 : Int) < ((t276.length : Int) : Int) := of_decide_eq_true (by first | (with_reducible assumption) | assumption); first | exact h_ | (have e_ := (qR HO278.out).1; omega) | simpa using h_) (seg := [.int .i64 t304, .int .i64 t305, .int .i64 t306, .int .i64 t307, .int .i64 t308, .int .i64 t309, .int .i64 t310]) (j := 0) hcl30 hcc30 (show 7 ≤ 7 from by decide) (x' := (⟨t304, t305, t306, t307, t308, t309, t310⟩ : S46)) (k46_mkM _ _ _ (⟨t304, t305, t306, t307, t308, t309, t310⟩ : S46) ) (fun _ hk => hk); have hx30_0 := hcc30 0 _ rfl; (try simp only [show (k46).sz = 7 from rfl, Nat.mul_one, Nat.add_zero] at hx30_0); (try rw [show ((0 : Int)).toNat = 0 from rfl] at hx30_0); (try simp only [Nat.reduceMul, Nat.zero_mul, Nat.zero_add, Nat.reduceAdd] at hx30_0); have hf30_0 := hfr30 0; (try simp only [show (k46).sz = 7 from rfl, Nat.mul_one, Nat.add_zero] at hf30_0); (try rw [show ((0 : Int)).toNat = 0 from rfl] at hf30_0); (try simp only [Nat.reduceMul, Nat.zero_mul, Nat.zero_add, Nat.reduceAdd] at hf30_0); have hx30_1 := hcc30 1 _ rfl; (try simp only [show (k46).sz = 7 from rfl, Nat.mul_one, Nat.add_zero] at hx30_1); (try rw [show ((0 : Int)).toNat = 0 from rfl] at hx30_1); (try simp only [Nat.reduceMul, Nat.zero_mul, Nat.zero_add, Nat.reduceAdd] at hx30_1); have hf30_1 := hfr30 1; (try simp only [show (k46).sz = 7 from rfl, Nat.mul_one, Nat.add_zero] at hf30_1); (try rw [show ((0 : Int)).toNat = 0 from rfl] at hf30_1); (try simp only [Nat.reduceMul, Nat.zero_mul, Nat.zero_add, Nat.reduceAdd] at hf30_1); have hx30_2 := hcc30 2 _ rfl; (try simp only [show (k46).sz = 7 from rfl, Nat.mul_one, Nat.add_zero] at hx30_2); (try rw [show ((0 : Int)).toNat = 0 from rfl] at hx30_2); (try simp only [Nat.reduceMul, Nat.zero_mul, Nat.zero_add, Nat.reduceAdd] at hx30_2); have hf30_2 := hfr30 2; (try simp only [show (k46).sz = 7 from rfl, Nat.mul_one, Nat.add_zero] at hf30_2); (try rw [show ((0 : Int)).toNat = 0 from rfl] at hf30_2); (try simp only [Nat.reduceMul, Nat.zero_mul, Nat.zero_add, Nat.reduceAdd] at hf30_2); have hx30_3 := hcc30 3 _ rfl; (try simp only [show (k46).sz = 7 from rfl, Nat.mul_one, Nat.add_zero] at hx30_3); (try rw [show ((0 : Int)).toNat = 0 from rfl] at hx30_3); (try simp only [Nat.reduceMul, Nat.zero_mul, Nat.zero_add, Nat.reduceAdd] at hx30_3); have hf30_3 := hfr30 3; (try simp only [show (k46).sz = 7 from rfl, Nat.mul_one, Nat.add_zero] at hf30_3); (try rw [show ((0 : Int)).toNat = 0 from rfl] at hf30_3); (try simp only [Nat.reduceMul, Nat.zero_mul, Nat.zero_add, Nat.reduceAdd] at hf30_3); have hx30_4 := hcc30 4 _ rfl; (try simp only [show (k46).sz = 7 from rfl, Nat.mul_one, Nat.add_zero] at hx30_4); (try rw [show ((0 : Int)).toNat = 0 from rfl] at hx30_4); (try simp only [Nat.reduceMul, Nat.zero_mul, Nat.zero_add, Nat.reduceAdd] at hx30_4); have hf30_4 := hfr30 4; (try simp only [show (k46).sz = 7 from rfl, Nat.mul_one, Nat.add_zero] at hf30_4); (try rw [show ((0 : Int)).toNat = 0 from rfl] at hf30_4); (try simp only [Nat.reduceMul, Nat.zero_mul, Nat.zero_add, Nat.reduceAdd] at hf30_4); have hx30_5 := hcc30 5 _ rfl; (try simp only [show (k46).sz = 7 from rfl, Nat.mul_one, Nat.add_zero] at hx30_5); (try rw [show ((0 : Int)).toNat = 0 from rfl] at hx30_5); (try simp only [Nat.reduceMul, Nat.zero_mul, Nat.zero_add, Nat.reduceAdd] at hx30_5); have hf30_5 := hfr30 5; (try simp only [show (k46).sz = 7 from rfl, Nat.mul_one, Nat.add_zero] at hf30_5); (try rw [show ((0 : Int)).toNat = 0 from rfl] at hf30_5); (try simp only [Nat.reduceMul, Nat.zero_mul, Nat.zero_add, Nat.reduceAdd] at hf30_5); have hx30_6 := hcc30 6 _ rfl; (try simp only [show (k46).sz = 7 from rfl, Nat.mul_one, Nat.add_zero] at hx30_6); (try rw [show ((0 : Int)).toNat = 0 from rfl] at hx30_6); (try simp only [Nat.reduceMul, Nat.zero_mul, Nat.zero_add, Nat.reduceAdd] at hx30_6); have hf30_6 := hfr30 6; (try simp only [show (k46).sz = 7 from rfl, Nat.mul_one, Nat.add_zero] at hf30_6); (try rw [show ((0 : Int)).toNat = 0 from rfl] at hf30_6); (try simp only [Nat.reduceMul, Nat.zero_mul, Nat.zero_add, Nat.reduceAdd] at hf30_6); clear hcl30 hcc30 hfr30 hM30) | ((with_reducible refine gate_store (t := 46) (p := 26) rfl ?_); refine store_event (t := 46) (p := 26) (v := ?vo_w31) (w1 := (((((((w29.setCell ⟨go25, 0, none⟩ (.int .i64 t304)).setCell ⟨go25, 1, none⟩ (.int .i64 t305)).setCell ⟨go25, 2, none⟩ (.int .i64 t306)).setCell ⟨go25, 3, none⟩ (.int .i64 t307)).setCell ⟨go25, 4, none⟩ (.int .i64 t308)).setCell ⟨go25, 5, none⟩ (.int .i64 t309)).setCell ⟨go25, 6, none⟩ (.int .i64 t310))) ?hg ?ho ?hn ?hr ?_; (case ho => rfl); (case hg => rfl); (case hn => rfl); (case hr => first | (go_simp; done) | (go_simp; rfl)); intro w31 hw; have hg : w29.grownBy w31 (some go25) := (by rw [hw]; exact HP30.2); have hp_ : Kd.R k46 46 w31 w.heap.size (fun _ => True) (.slice (some ⟨go25, 0, none⟩) t276.length co28) y312 := (by rw [hw, Ny312.out]; exact HP30.1); clear HP30; have n0_ := qM (IsS67.grown (by repeat (first | (with_reducible first | exact HI0.out | apply IsS67.alloc | apply IsS67.drewN | apply IsS67.drew | apply IsS67.set_1) | exact HI0.out)) hg (IsS67.own_ne HI0.out HO278.out (by decide))); have n1_ := qM (hp_); have n2_ := qM ((by rw [hw]; exact yS (yS (yS (yS (yS (yS (yS (HB.out) (Nat.le_trans HL.out GB25.out)) (Nat.le_trans HL.out GB25.out)) (Nat.le_trans HL.out GB25.out)) (Nat.le_trans HL.out GB25.out)) (Nat.le_trans HL.out GB25.out)) (Nat.le_trans HL.out GB25.out)) (Nat.le_trans HL.out GB25.out) : Below w0.heap.size w0 w31)); have n3_ := qM (KeepBut.trans (by repeat (first | (with_reducible first | exact HK.out | apply KeepBut.set_ | apply keep_drewN | apply keep_drew | apply keep_alloc) | exact HK.out)) (KeepBut.of_grown hg g) (Kd.R_base2 HO278.out)); clear HI0; clear HO278; clear HB; clear HK; have HI0 := n0_; have HO278 := n1_; have HB := n2_; have HK := n3_; clear n0_ n1_ n2_ n3_; clear hg hw hp_))
    go_ret
    exact ⟨_, by first | rfl | (simp [errW_none, errW_some] <;> rfl) | (simp [*, errW_none, errW_some] <;> rfl), by (with_reducible repeat (first | apply qA | apply qN | apply qD)); exact HO278.out, by repeat (first | (with_reducible first | exact HI0.out | apply IsS67.alloc | apply IsS67.drewN | apply IsS67.drew | apply IsS67.set_1) | exact HI0.out), by repeat (first | (with_reducible first | exact HB.out | apply yA | apply yN | apply yD | refine yS ?_ (IsS67.ge HI0.out)) | exact HB.out), by repeat (first | (with_reducible first | exact HK.out | apply KeepBut.set_ | apply keep_drewN | apply keep_drew | apply keep_alloc) | exact HK.out)⟩
   ·rw [if_neg c23] at H
    exact absurd H (by simp)
  ·rw [if_neg c22] at H
   have c22b0 : decide (0 < (t276.length : Int)) = false := decide_eq_false c22
   have c22b1 : decide (0 < t276.length) = false := decide_eq_false (by omega)
   clear c22
   simp only [Option.some.injEq, Prod.mk.injEq] at H
   obtain ⟨rfl, rfl⟩ := H
   go_enter Try.func47, Try.ntmps47
   go_wp2_with (first | ((with_reducible refine gate_callee (f := 52) rfl ?_); refine goesL_ (some 5) rfl rfl Try.func52 (by kernel_rfl) rfl #[.pointer (some ⟨g, 0, none⟩)] rfl (by (try simp only [List.map_toArray, List.map_cons, List.map_nil]); first | done | rfl | (simp only [List.length_drop, List.length_take]; rfl)) ?_; (with_reducible refine (spec_l31Guard.calls k g s0_0 s0_1 t276 t279 w0 _ ?side1 ?side2 A2.out).mono ?_); (case side1 => repeat (first | (with_reducible first | exact HI0.out | apply IsS67.alloc | apply IsS67.drewN | apply IsS67.drew | apply IsS67.set_1) | exact HI0.out)); (case side2 => repeat (first | (with_reducible first | exact HB.out | apply yA | apply yN | apply yD | refine yS ?_ (IsS67.ge HI0.out)) | exact HB.out)); rintro e w32 ⟨v277, rfl, ho0, hi, hb, hk⟩; refine ⟨_, rfl, ?_⟩; have n0_ := qM (Kd.R_lower ho0 (keep_size (w := w) (g := g) (row := none) (by repeat (first | (with_reducible first | exact HK.out | apply KeepBut.set_ | apply keep_drewN | apply keep_drew | apply keep_alloc) | exact HK.out)))); have n1_ := qM (KeepBut.trans (by repeat (first | (with_reducible first | exact HK.out | apply KeepBut.set_ | apply keep_drewN | apply keep_drew | apply keep_alloc) | exact HK.out)) hk (.inl rfl)); have n2_ := qM (hb); have n3_ := qM (hi); clear HK; clear HB; clear HI0; have HO278 := n0_; have HK := n1_; have HB := n2_; have HI0 := n3_; clear n0_ n1_ n2_ n3_; (try clear hb); (try clear hb2); (try clear hk); (try clear hi); (try clear ho0)) | ((with_reducible refine gate_callee (f := 39) rfl ?_); refine goesL_ (some 7) rfl rfl Try.func39 (by kernel_rfl) rfl #[.pointer (some ⟨g, 0, none⟩), .int .i64 12] rfl (by (try simp only [List.map_toArray, List.map_cons, List.map_nil]); first | done | rfl | (simp only [List.length_drop, List.length_take]; rfl)) ?_; (with_reducible refine (spec_l30Rd_pick.calls k g s0_0 t279 12 t280 t281 w0 _ ?side1 ?side2 A3.out).mono ?_); (case side1 => repeat (first | (with_reducible first | exact HI0.out | apply IsS67.alloc | apply IsS67.drewN | apply IsS67.drew | apply IsS67.set_1) | exact HI0.out)); (case side2 => repeat (first | (with_reducible first | exact HB.out | apply yA | apply yN | apply yD | refine yS ?_ (IsS67.ge HI0.out)) | exact HB.out)); rintro e w33 ⟨rfl, hi, hb, hk⟩; refine ⟨_, rfl, ?_⟩; have n0_ := qM (Kd.R_mono (Kd.R_keep (IsS67.apart (show IsS67 w0 _ g s0_0 t279 from by repeat (first | (with_reducible first | exact HI0.out | apply IsS67.alloc | apply IsS67.drewN | apply IsS67.drew | apply IsS67.set_1) | exact HI0.out)) (by (with_reducible repeat (first | apply qA | apply qN | apply qD)); exact HO278.out) (by decide)) hk (fun _ h => h.2)) (fun _ h => h.1)); have n1_ := qM (KeepBut.trans (by repeat (first | (with_reducible first | exact HK.out | apply KeepBut.set_ | apply keep_drewN | apply keep_drew | apply keep_alloc) | exact HK.out)) hk (.inl rfl)); have n2_ := qM (hb); have n3_ := qM (hi); clear HO278; clear HK; clear HB; clear HI0; have HO278 := n0_; have HK := n1_; have HB := n2_; have HI0 := n3_; clear n0_ n1_ n2_ n3_; (try clear hb); (try clear hb2); (try clear hk); (try clear hi); obtain ⟨Ao34, co34, eo34⟩ := Kd.R_slice HO278.out; subst eo34))
   go_ret
   exact ⟨_, by first | rfl | (simp [errW_none, errW_some] <;> rfl) | (simp [*, errW_none, errW_some] <;> rfl), by (with_reducible repeat (first | apply qA | apply qN | apply qD)); exact HO278.out, by repeat (first | (with_reducible first | exact HI0.out | apply IsS67.alloc | apply IsS67.drewN | apply IsS67.drew | apply IsS67.set_1) | exact HI0.out), by repeat (first | (with_reducible first | exact HB.out | apply yA | apply yN | apply yD | refine yS ?_ (IsS67.ge HI0.out)) | exact HB.out), by repeat (first | (with_reducible first | exact HK.out | apply KeepBut.set_ | apply keep_drewN | apply keep_drew | apply keep_alloc) | exact HK.out)⟩

open Go.Proofs.YtlmlbodbloahlaaAl
/-! ### spec_DrawGrdDo: function 27 -/
def spec_DrawGrdDo.f (k : Nat) (l0 : List Int) : Option ((List (S46)) × List Int) := (spec_l30Open.f l0).bind fun bt313 => ((spec_l31Guards.f k bt313.1 bt313.2).bind fun bt316 => ((spec_l30Message.f k bt313.1 bt316.2).bind fun bt320 => (some (bt316.1, bt320.1))))
theorem spec_DrawGrdDo.mono : ∀ a0 k, LeO (spec_DrawGrdDo.f k a0) (spec_DrawGrdDo.f (k + 1) a0) := by
 intro a0 k
 unfold spec_DrawGrdDo.f
 repeat' first
   | (with_reducible exact spec_l30Message.mono _ _ _)
   | (with_reducible exact spec_l31Guards.mono _ _ _)
   | (with_reducible exact LeO.refl _)
   | (with_reducible exact LeO.none _)
   | (with_reducible refine LeO.ite ?_ ?_)
   | (with_reducible refine LeO.bind ?_ (fun _ => ?_))
   | exact spec_l30Message.mono _ _ _
   | exact spec_l31Guards.mono _ _ _
   | exact LeO.none _
   | refine LeO.ite ?_ ?_
   | refine LeO.bind ?_ (fun _ => ?_)
set_option maxHeartbeats 8000000 in
set_option maxRecDepth 100000 in
theorem spec_DrawGrdDo.calls (k : Nat) (A0 : Option Addr) (c0 : Nat) (l0 : List Int) (r1 : List (S46)) (r2 : List Int) (w : World) (hr0 : Kd.C (Kd.int .u8) w A0 l0.length l0) (hc0 : l0.length ≤ c0) (h : spec_DrawGrdDo.f k l0 = some (r1, r2)) :
  Calls Try.prog 27 #[.slice A0 l0.length c0] w fun e w' => ∃ v0_ v1_ : Value, e = .returned (.tuple #[v0_, v1_]) ∧ Kd.R k46 46 w' w.heap.size (fun _ => True) v0_ r1 ∧ Kd.R (Kd.int .u8) 5 w' w.heap.size (fun _ => True) v1_ r2 ∧ Below w.heap.size w w' := by
 have HR0 := qM hr0
 have HC0 := qM hc0
 clear hr0 hc0
 have HB := qM (Below.refl w.heap.size w)
 have H : ((spec_l30Open.f l0).bind fun bt313 => ((spec_l31Guards.f k bt313.1 bt313.2).bind fun bt316 => ((spec_l30Message.f k bt313.1 bt316.2).bind fun bt320 => (some (bt316.1, bt320.1))))) = some (r1, r2) := h
 clear h
 replace H := Option.bind_eq_some_iff.mp H
 obtain ⟨⟨t313, t314⟩, A20, H⟩ := H
 replace H : ((spec_l31Guards.f k t313 t314).bind fun bt316 => ((spec_l30Message.f k t313 bt316.2).bind fun bt320 => (some (bt316.1, bt320.1)))) = some (r1, r2) := H
 have A2 := qM A20
 clear A20
 replace H := Option.bind_eq_some_iff.mp H
 obtain ⟨⟨t316, t319⟩, A30, H⟩ := H
 replace H : ((spec_l30Message.f k t313 t319).bind fun bt320 => (some (t316, bt320.1))) = some (r1, r2) := H
 have A3 := qM A30
 clear A30
 replace H := Option.bind_eq_some_iff.mp H
 obtain ⟨⟨t320, t323⟩, A40, H⟩ := H
 replace H : (some (t316, t320)) = some (r1, r2) := H
 have A4 := qM A40
 clear A40
 simp only [Option.some.injEq, Prod.mk.injEq] at H
 obtain ⟨rfl, rfl⟩ := H
 go_enter Try.func27, Try.ntmps27
 go_wp2_with (first | ((with_reducible refine gate_callee (f := 38) rfl ?_); refine goesL_ (some 6) rfl rfl Try.func38 (by kernel_rfl) rfl #[.slice A0 l0.length c0] rfl (by (try simp only [List.map_toArray, List.map_cons, List.map_nil]); first | done | rfl | (simp only [List.length_drop, List.length_take]; rfl)) ?_; (with_reducible refine (spec_l30Open.calls _ _ l0 t313 t314 w _ ?side1 ?side2 ?side3 A2.out).mono ?_); (case side1 => repeat (first | (with_reducible first | exact HB.out | apply yA | apply yN | apply yD) | exact HB.out)); (case side2 => exact HR0.out); (case side3 => exact HC0.out); rintro e w5 ⟨g315, rfl, hi, hb, hb2⟩; refine ⟨_, rfl, ?_⟩; have n0_ := qM (hb); have n1_ := qM (hi); clear HB; have HB := n0_; have HI315 := n1_; clear n0_ n1_; (try clear hb); (try clear hb2); (try clear hk); (try clear hi)) | ((with_reducible refine gate_callee (f := 47) rfl ?_); refine goesL_ (some 8) rfl rfl Try.func47 (by kernel_rfl) rfl #[.pointer (some ⟨g315, 0, none⟩)] rfl (by (try simp only [List.map_toArray, List.map_cons, List.map_nil]); first | done | rfl | (simp only [List.length_drop, List.length_take]; rfl)) ?_; (with_reducible refine (spec_l31Guards.calls k g315 t313 t314 t316 t319 w _ ?side1 ?side2 A3.out).mono ?_); (case side1 => repeat (first | (with_reducible first | exact HI315.out | apply IsS67.alloc | apply IsS67.drewN | apply IsS67.drew | apply IsS67.set_1) | exact HI315.out)); (case side2 => repeat (first | (with_reducible first | exact HB.out | apply yA | apply yN | apply yD | refine yS ?_ (IsS67.ge HI315.out)) | exact HB.out)); rintro e w6 ⟨v317, rfl, ho0, hi, hb, hk⟩; refine ⟨_, rfl, ?_⟩; have n0_ := qM (Kd.R_lower ho0 (below_size (by repeat (first | (with_reducible first | exact HB.out | apply yA | apply yN | apply yD | refine yS ?_ (IsS67.ge HI315.out)) | exact HB.out)))); have n1_ := qM (hb); have n2_ := qM (hi); clear HB; clear HI315; have HO318 := n0_; have HB := n1_; have HI315 := n2_; clear n0_ n1_ n2_; (try clear hb); (try clear hb2); (try clear hk); (try clear hi); (try clear ho0)) | ((with_reducible refine gate_callee (f := 40) rfl ?_); refine goesL_ (some 10) rfl rfl Try.func40 (by kernel_rfl) rfl #[.pointer (some ⟨g315, 0, none⟩)] rfl (by (try simp only [List.map_toArray, List.map_cons, List.map_nil]); first | done | rfl | (simp only [List.length_drop, List.length_take]; rfl)) ?_; (with_reducible refine (spec_l30Message.calls k g315 t313 t319 t320 t323 w _ ?side1 ?side2 A4.out).mono ?_); (case side1 => repeat (first | (with_reducible first | exact HI315.out | apply IsS67.alloc | apply IsS67.drewN | apply IsS67.drew | apply IsS67.set_1) | exact HI315.out)); (case side2 => repeat (first | (with_reducible first | exact HB.out | apply yA | apply yN | apply yD | refine yS ?_ (IsS67.ge HI315.out)) | exact HB.out)); rintro e w7 ⟨v321, rfl, ho0, hi, hb, hk⟩; refine ⟨_, rfl, ?_⟩; have n0_ := qM (Kd.R_mono (Kd.R_keep (IsS67.apart (show IsS67 w _ g315 t313 t319 from by repeat (first | (with_reducible first | exact HI315.out | apply IsS67.alloc | apply IsS67.drewN | apply IsS67.drew | apply IsS67.set_1) | exact HI315.out)) (by (with_reducible repeat (first | apply qA | apply qN | apply qD)); exact HO318.out) (by decide)) hk (fun _ h => h.2)) (fun _ h => h.1)); have n1_ := qM (Kd.R_lower ho0 (below_size (by repeat (first | (with_reducible first | exact HB.out | apply yA | apply yN | apply yD | refine yS ?_ (IsS67.ge HI315.out)) | exact HB.out)))); have n2_ := qM (hb); have n3_ := qM (hi); clear HO318; clear HB; clear HI315; have HO318 := n0_; have HO322 := n1_; have HB := n2_; have HI315 := n3_; clear n0_ n1_ n2_ n3_; (try clear hb); (try clear hb2); (try clear hk); (try clear hi); (try clear ho0)))
 go_ret2
 exact ⟨_, _, by first | rfl | (simp [errW_none, errW_some] <;> rfl) | (simp [*, errW_none, errW_some] <;> rfl), by (with_reducible repeat (first | apply qA | apply qN | apply qD)); exact HO318.out, by (with_reducible repeat (first | apply qA | apply qN | apply qD)); exact HO322.out, by repeat (first | (with_reducible first | exact HB.out | apply yA | apply yN | apply yD | refine yS ?_ (IsS67.ge HI315.out)) | exact HB.out)⟩

open Go.Proofs.YtlmlbodbloahlaaAl
/-! ### spec_DrawGrdRuleOk: function 32 -/
def spec_DrawGrdRuleOk.f (k : Nat) (l0 : List Int) : Option (Int × Int × Int × Int × Int × Int × Int) := (spec_l30Open.f l0).bind fun bt325 => ((spec_l31Rule.f k bt325.1 bt325.2).bind fun bt328 => ((spec_l31Bad.f k bt325.1 bt328.2.2.2.2.2.2.2 bt328.1 bt328.2.1 bt328.2.2.1 bt328.2.2.2.1 bt328.2.2.2.2.1 bt328.2.2.2.2.2.1 bt328.2.2.2.2.2.2.1).bind fun bt336 => (some (bt336.1, bt336.2.1, bt336.2.2.1, bt336.2.2.2.1, bt336.2.2.2.2.1, bt336.2.2.2.2.2.1, bt336.2.2.2.2.2.2.1))))
theorem spec_DrawGrdRuleOk.mono : ∀ a0 k, LeO (spec_DrawGrdRuleOk.f k a0) (spec_DrawGrdRuleOk.f (k + 1) a0) := by
 intro a0 k
 unfold spec_DrawGrdRuleOk.f
 repeat' first
   | (with_reducible exact spec_l31Bad.mono _ _ _ _ _ _ _ _ _ _)
   | (with_reducible exact spec_l31Rule.mono _ _ _)
   | (with_reducible exact LeO.refl _)
   | (with_reducible exact LeO.none _)
   | (with_reducible refine LeO.ite ?_ ?_)
   | (with_reducible refine LeO.bind ?_ (fun _ => ?_))
   | exact spec_l31Bad.mono _ _ _ _ _ _ _ _ _ _
   | exact spec_l31Rule.mono _ _ _
   | exact LeO.none _
   | refine LeO.ite ?_ ?_
   | refine LeO.bind ?_ (fun _ => ?_)
set_option maxHeartbeats 8000000 in
set_option maxRecDepth 100000 in
theorem spec_DrawGrdRuleOk.calls (k : Nat) (A0 : Option Addr) (c0 : Nat) (l0 : List Int) (r1 : Int) (r2 : Int) (r3 : Int) (r4 : Int) (r5 : Int) (r6 : Int) (r7 : Int) (w : World) (hr0 : Kd.C (Kd.int .u8) w A0 l0.length l0) (hc0 : l0.length ≤ c0) (h : spec_DrawGrdRuleOk.f k l0 = some (r1, r2, r3, r4, r5, r6, r7)) :
  Calls Try.prog 32 #[.slice A0 l0.length c0] w fun e w' => e = .returned (.agg #[.int .i64 r1, .int .i64 r2, .int .i64 r3, .int .i64 r4, .int .i64 r5, .int .i64 r6, .int .i64 r7]) ∧ Below w.heap.size w w' := by
 have hu46 := Try.underlying46
 have HR0 := qM hr0
 have HC0 := qM hc0
 clear hr0 hc0
 have HB := qM (Below.refl w.heap.size w)
 have H : ((spec_l30Open.f l0).bind fun bt325 => ((spec_l31Rule.f k bt325.1 bt325.2).bind fun bt328 => ((spec_l31Bad.f k bt325.1 bt328.2.2.2.2.2.2.2 bt328.1 bt328.2.1 bt328.2.2.1 bt328.2.2.2.1 bt328.2.2.2.2.1 bt328.2.2.2.2.2.1 bt328.2.2.2.2.2.2.1).bind fun bt336 => (some (bt336.1, bt336.2.1, bt336.2.2.1, bt336.2.2.2.1, bt336.2.2.2.2.1, bt336.2.2.2.2.2.1, bt336.2.2.2.2.2.2.1))))) = some (r1, r2, r3, r4, r5, r6, r7) := h
 clear h
 replace H := Option.bind_eq_some_iff.mp H
 obtain ⟨⟨t325, t326⟩, A20, H⟩ := H
 replace H : ((spec_l31Rule.f k t325 t326).bind fun bt328 => ((spec_l31Bad.f k t325 bt328.2.2.2.2.2.2.2 bt328.1 bt328.2.1 bt328.2.2.1 bt328.2.2.2.1 bt328.2.2.2.2.1 bt328.2.2.2.2.2.1 bt328.2.2.2.2.2.2.1).bind fun bt336 => (some (bt336.1, bt336.2.1, bt336.2.2.1, bt336.2.2.2.1, bt336.2.2.2.2.1, bt336.2.2.2.2.2.1, bt336.2.2.2.2.2.2.1)))) = some (r1, r2, r3, r4, r5, r6, r7) := H
 have A2 := qM A20
 clear A20
 replace H := Option.bind_eq_some_iff.mp H
 obtain ⟨⟨t328, t329, t330, t331, t332, t333, t334, t335⟩, A30, H⟩ := H
 replace H : ((spec_l31Bad.f k t325 t335 t328 t329 t330 t331 t332 t333 t334).bind fun bt336 => (some (bt336.1, bt336.2.1, bt336.2.2.1, bt336.2.2.2.1, bt336.2.2.2.2.1, bt336.2.2.2.2.2.1, bt336.2.2.2.2.2.2.1))) = some (r1, r2, r3, r4, r5, r6, r7) := H
 have A3 := qM A30
 clear A30
 replace H := Option.bind_eq_some_iff.mp H
 obtain ⟨⟨t336, t337, t338, t339, t340, t341, t342, t343⟩, A40, H⟩ := H
 replace H : (some (t336, t337, t338, t339, t340, t341, t342)) = some (r1, r2, r3, r4, r5, r6, r7) := H
 have A4 := qM A40
 clear A40
 simp only [Option.some.injEq, Prod.mk.injEq] at H
 obtain ⟨rfl, rfl, rfl, rfl, rfl, rfl, rfl⟩ := H
 go_enter Try.func32, Try.ntmps32
 go_wp2_with (first | ((with_reducible refine gate_dst (N := 2) rfl ?_); refine box_event ?hg (N := 2) ?hd (cs := #[.int .i64 0, .int .i64 0, .int .i64 0, .int .i64 0, .int .i64 0, .int .i64 0, .int .i64 0]) (t := 46) ?hr ?_; (case hd => rfl); (case hg => rfl); (case hr => first | (go_simp; done) | (go_simp; rfl)); intro gb324 hg w5 hbox hb; have n0_ := qM (below_step (by repeat (first | (with_reducible first | exact HB.out | apply yA | apply yN | apply yD) | exact HB.out)) hb); have n1_ := qM (hbox); have n2_ := qM ((by rw [hg]; exact (below_size (by repeat (first | (with_reducible first | exact HB.out | apply yA | apply yN | apply yD) | exact HB.out))) : w.heap.size ≤ gb324)); have n3_ := qM ((by rw [hg]; exact (below_size (by repeat (first | (with_reducible first | exact HB.out | apply yA | apply yN | apply yD) | exact HB.out))) : w.heap.size ≤ gb324)); clear HB; have HB := n0_; have BK324 := n1_; have GW324 := n2_; have GE324 := n3_; clear n0_ n1_ n2_ n3_; clear hb hbox hg) | ((with_reducible refine gate_callee (f := 38) rfl ?_); refine goesL_ (some 5) rfl rfl Try.func38 (by kernel_rfl) rfl #[.slice A0 l0.length c0] rfl (by (try simp only [List.map_toArray, List.map_cons, List.map_nil]); first | done | rfl | (simp only [List.length_drop, List.length_take]; rfl)) ?_; (with_reducible refine (spec_l30Open.calls _ _ l0 t325 t326 w _ ?side1 ?side2 ?side3 A2.out).mono ?_); (case side1 => repeat (first | (with_reducible first | exact HB.out | apply yA | apply yN | apply yD | refine yS ?_ GE324.out) | exact HB.out)); (case side2 => exact HR0.out); (case side3 => exact HC0.out); rintro e w6 ⟨g327, rfl, hi, hb, hb2⟩; refine ⟨_, rfl, ?_⟩; have n0_ := qM (blk_below (g := gb324) (o := .cells #[.int .i64 0, .int .i64 0, .int .i64 0, .int .i64 0, .int .i64 0, .int .i64 0, .int .i64 0] 46 (0, 0)) (by (with_reducible repeat (first | refine zN ?_ _ | refine zD ?_ | refine zA ?_ _)); exact BK324.out) hb2); have n1_ := qM (hb); have n2_ := qM (hi); have n3_ := qM (IsS67.ne_blk hi (blk_below (g := gb324) (o := .cells #[.int .i64 0, .int .i64 0, .int .i64 0, .int .i64 0, .int .i64 0, .int .i64 0, .int .i64 0] 46 (0, 0)) (by (with_reducible repeat (first | refine zN ?_ _ | refine zD ?_ | refine zA ?_ _)); exact BK324.out) hb2) (by decide)); have n4_ := qM (Ne.symm (IsS67.ne_blk hi (blk_below (g := gb324) (o := .cells #[.int .i64 0, .int .i64 0, .int .i64 0, .int .i64 0, .int .i64 0, .int .i64 0, .int .i64 0] 46 (0, 0)) (by (with_reducible repeat (first | refine zN ?_ _ | refine zD ?_ | refine zA ?_ _)); exact BK324.out) hb2) (by decide))); clear BK324; clear HB; have BK324 := n0_; have HB := n1_; have HI327 := n2_; have NB327_324 := n3_; have NB324_327 := n4_; clear n0_ n1_ n2_ n3_ n4_; (try clear hb); (try clear hb2); (try clear hk); (try clear hi)) | ((with_reducible refine gate_callee (f := 49) rfl ?_); refine goesL_ (some 8) rfl rfl Try.func49 (by kernel_rfl) rfl #[.pointer (some ⟨g327, 0, none⟩)] rfl (by (try simp only [List.map_toArray, List.map_cons, List.map_nil]); first | done | rfl | (simp only [List.length_drop, List.length_take]; rfl)) ?_; (with_reducible refine (spec_l31Rule.calls k g327 t325 t326 t328 t329 t330 t331 t332 t333 t334 t335 w _ ?side1 ?side2 A3.out).mono ?_); (case side1 => repeat (first | (with_reducible first | exact HI327.out | apply IsS67.alloc | apply IsS67.drewN | apply IsS67.drew | apply IsS67.set_1 | refine IsS67.far ?_ NB327_324.out _) | exact HI327.out)); (case side2 => repeat (first | (with_reducible first | exact HB.out | apply yA | apply yN | apply yD | refine yS ?_ (IsS67.ge HI327.out) | refine yS ?_ GE324.out) | exact HB.out)); rintro e w7 ⟨rfl, hi, hb, hk⟩; refine ⟨_, rfl, ?_⟩; have n0_ := qM (KeepBut.blk hk (g' := gb324) (o := .cells #[.int .i64 0, .int .i64 0, .int .i64 0, .int .i64 0, .int .i64 0, .int .i64 0, .int .i64 0] 46 (0, 0)) (by (with_reducible repeat (first | refine zN ?_ _ | refine zD ?_ | refine zA ?_ _)); exact BK324.out) NB324_327.out (by simp)); have n1_ := qM (hb); have n2_ := qM (hi); clear BK324; clear HB; clear HI327; have BK324 := n0_; have HB := n1_; have HI327 := n2_; clear n0_ n1_ n2_; (try clear hb); (try clear hb2); (try clear hk); (try clear hi)) | ((with_reducible refine gate_callee (f := 48) rfl ?_); refine goesL_ (some 9) rfl rfl Try.func48 (by kernel_rfl) rfl #[.pointer (some ⟨g327, 0, none⟩), .agg #[.int .i64 t328, .int .i64 t329, .int .i64 t330, .int .i64 t331, .int .i64 t332, .int .i64 t333, .int .i64 t334]] rfl (by (try simp only [List.map_toArray, List.map_cons, List.map_nil]); first | done | rfl | (simp only [List.length_drop, List.length_take]; rfl)) ?_; (with_reducible refine (spec_l31Bad.calls k g327 t325 t335 t328 t329 t330 t331 t332 t333 t334 t336 t337 t338 t339 t340 t341 t342 t343 w _ ?side1 ?side2 A4.out).mono ?_); (case side1 => repeat (first | (with_reducible first | exact HI327.out | apply IsS67.alloc | apply IsS67.drewN | apply IsS67.drew | apply IsS67.set_1 | refine IsS67.far ?_ NB327_324.out _) | exact HI327.out)); (case side2 => repeat (first | (with_reducible first | exact HB.out | apply yA | apply yN | apply yD | refine yS ?_ (IsS67.ge HI327.out) | refine yS ?_ GE324.out) | exact HB.out)); rintro e w8 ⟨rfl, hi, hb, hk⟩; refine ⟨_, rfl, ?_⟩; have n0_ := qM (KeepBut.blk hk (g' := gb324) (o := .cells #[.int .i64 0, .int .i64 0, .int .i64 0, .int .i64 0, .int .i64 0, .int .i64 0, .int .i64 0] 46 (0, 0)) (by (with_reducible repeat (first | refine zN ?_ _ | refine zD ?_ | refine zA ?_ _)); exact BK324.out) NB324_327.out (by simp)); have n1_ := qM (hb); have n2_ := qM (hi); clear BK324; clear HB; clear HI327; have BK324 := n0_; have HB := n1_; have HI327 := n2_; clear n0_ n1_ n2_; (try clear hb); (try clear hb2); (try clear hk); (try clear hi); have hnb9 := NB324_327.out; have hnc9 := NB327_324.out; have hcz10_0 : w8.cell? ⟨gb324, 0, none⟩ = some (.int .i64 0) := (zC BK324.out 0).trans rfl; have hcz10_1 : w8.cell? ⟨gb324, 1, none⟩ = some (.int .i64 0) := (zC BK324.out 1).trans rfl; have hcz10_2 : w8.cell? ⟨gb324, 2, none⟩ = some (.int .i64 0) := (zC BK324.out 2).trans rfl; have hcz10_3 : w8.cell? ⟨gb324, 3, none⟩ = some (.int .i64 0) := (zC BK324.out 3).trans rfl; have hcz10_4 : w8.cell? ⟨gb324, 4, none⟩ = some (.int .i64 0) := (zC BK324.out 4).trans rfl; have hcz10_5 : w8.cell? ⟨gb324, 5, none⟩ = some (.int .i64 0) := (zC BK324.out 5).trans rfl; have hcz10_6 : w8.cell? ⟨gb324, 6, none⟩ = some (.int .i64 0) := (zC BK324.out 6).trans rfl; have hfz10_0 := zF BK324.out 0; have hfz10_1 := zF BK324.out 1; have hfz10_2 := zF BK324.out 2; have hfz10_3 := zF BK324.out 3; have hfz10_4 := zF BK324.out 4; have hfz10_5 := zF BK324.out 5; have hfz10_6 := zF BK324.out 6))
 refine bodyPost_ret (results_cell_row rfl _ _ gb324 46 #[.int .i64 t336, .int .i64 t337, .int .i64 t338, .int .i64 t339, .int .i64 t340, .int .i64 t341, .int .i64 t342] (0, 0) _ rfl (by (with_reducible repeat (first | refine zN ?_ _ | refine zD ?_ | refine zA ?_ _)); refine blk_put (cs := #[.int .i64 t336, .int .i64 t337, .int .i64 t338, .int .i64 t339, .int .i64 t340, .int .i64 t341, .int .i64 0]) ?_ 6 _ rfl; (with_reducible repeat (first | refine zN ?_ _ | refine zD ?_ | refine zA ?_ _)); refine blk_put (cs := #[.int .i64 t336, .int .i64 t337, .int .i64 t338, .int .i64 t339, .int .i64 t340, .int .i64 0, .int .i64 0]) ?_ 5 _ rfl; (with_reducible repeat (first | refine zN ?_ _ | refine zD ?_ | refine zA ?_ _)); refine blk_put (cs := #[.int .i64 t336, .int .i64 t337, .int .i64 t338, .int .i64 t339, .int .i64 0, .int .i64 0, .int .i64 0]) ?_ 4 _ rfl; (with_reducible repeat (first | refine zN ?_ _ | refine zD ?_ | refine zA ?_ _)); refine blk_put (cs := #[.int .i64 t336, .int .i64 t337, .int .i64 t338, .int .i64 0, .int .i64 0, .int .i64 0, .int .i64 0]) ?_ 3 _ rfl; (with_reducible repeat (first | refine zN ?_ _ | refine zD ?_ | refine zA ?_ _)); refine blk_put (cs := #[.int .i64 t336, .int .i64 t337, .int .i64 0, .int .i64 0, .int .i64 0, .int .i64 0, .int .i64 0]) ?_ 2 _ rfl; (with_reducible repeat (first | refine zN ?_ _ | refine zD ?_ | refine zA ?_ _)); refine blk_put (cs := #[.int .i64 t336, .int .i64 0, .int .i64 0, .int .i64 0, .int .i64 0, .int .i64 0, .int .i64 0]) ?_ 1 _ rfl; (with_reducible repeat (first | refine zN ?_ _ | refine zD ?_ | refine zA ?_ _)); refine blk_put (cs := #[.int .i64 0, .int .i64 0, .int .i64 0, .int .i64 0, .int .i64 0, .int .i64 0, .int .i64 0]) ?_ 0 _ rfl; (with_reducible repeat (first | refine zN ?_ _ | refine zD ?_ | refine zA ?_ _)); exact BK324.out) Try.underlying46 rfl (by kernel_rfl)) rfl ?_
 exact ⟨by first | rfl | (simp [errW_none, errW_some] <;> rfl) | (simp [*, errW_none, errW_some] <;> rfl), by repeat (first | (with_reducible first | exact HB.out | apply yA | apply yN | apply yD | refine yS ?_ (IsS67.ge HI327.out) | refine yS ?_ GE324.out) | exact HB.out)⟩

/-! ### impl_GrdRuleOk: function 33 -/
def impl_GrdRuleOk.f (a0_0 : Int) (a0_1 : Int) (a0_2 : Int) (a0_3 : Int) (a0_4 : Int) (a0_5 : Int) (a0_6 : Int) : Option (Bool) := some (Go.Proofs.YtlmlbodbloahlaaGrdIter.ruleB a0_0 a0_1 a0_2 a0_3 a0_4 a0_5 a0_6)
theorem impl_GrdRuleOk.calls (a0_0 : Int) (a0_1 : Int) (a0_2 : Int) (a0_3 : Int) (a0_4 : Int) (a0_5 : Int) (a0_6 : Int) (r : Bool) (w : World) (h : impl_GrdRuleOk.f a0_0 a0_1 a0_2 a0_3 a0_4 a0_5 a0_6 = some r) :
    Calls Try.prog 33 #[.agg #[.int .i64 a0_0, .int .i64 a0_1, .int .i64 a0_2, .int .i64 a0_3, .int .i64 a0_4, .int .i64 a0_5, .int .i64 a0_6]] w fun e w' => e = .returned (.bool r) ∧ Below w.heap.size w w' := by
  exact Go.Proofs.Ytlmlbodbloahlaa.PGrdBase.impl_GrdRuleOk.calls a0_0 a0_1 a0_2 a0_3 a0_4 a0_5 a0_6 r w ((Go.Proofs.YtlmlbodbloahlaaGrdIter.implRule_eq a0_0 a0_1 a0_2 a0_3 a0_4 a0_5 a0_6).trans h)
end Go.Proofs.Ytlmlbodbloahlaa.PFnGrdMore
