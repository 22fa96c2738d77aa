/- Functions that a law reaches, each with the walk that shows what its call answers; laid by a program of this session. -/
import Derived.Test.YtaohaebgpbagmaaPFnHrdRisesx0
import Derived.Test.YtaohaebgpbagmaaPFnHrdRisesx1
namespace Go.Proofs.Ytaohaebgpbagmaa.PFnHrdRises
open Go.RowKit Go.Proofs.YtaohaebgpbagmaaW.PrintWords Go.Proofs.YtaohaebgpbagmaaW.PrintLast Go.Proofs.YtaohaebgpbagmaaW.PrintMore
attribute [local go_sem] max2_int min2_int max_two min_two max_three min_three max_four min_four   -- for this text's walks alone
set_option linter.unusedVariables false
set_option linter.unusedSimpArgs false

open Go.Proofs.YtaohaebgpbagmaaAl
/-! ### spec_l31Book: function 52 -/
def spec_l31Book.l0 : Nat → Int → List Int → Int → List Int → List Int → Option (List Int × List Int × Int)
 | 0, _, _, _, _, _ => none
 | k + 1, x4, x1000, x1001, x138000, x138001 => if x4 < (x138000.length : Int) then ((spec_l30Rd_pick.f k x1000 x1001 4).bind fun bt138 => (if 0 ≤ x4 then ((some (x138000.set (x4 : Int).toNat bt138.1 : List Int)).bind fun y140 => (if bt138.1 > 0 then ((some (([0, 1, 2, 30, 60000] : List Int) : List Int)).bind fun y142 => ((spec_l30Rd_pick.f k x1000 bt138.2 5).bind fun bt145 => (if 0 ≤ bt145.1 then (if bt145.1 < (y142.length : Int) then (if x4 < (x138001.length : Int) then (spec_l31Book.l0 k (wrap64 (x4 + 1)) x1000 bt145.2 y140 (x138001.set (x4 : Int).toNat (rd y142 bt145.1))) else (none)) else (none)) else (none)))) else (spec_l31Book.l0 k (wrap64 (x4 + 1)) x1000 bt138.2 y140 x138001))) else (none))) else ((spec_l30Rd_pick.f k x1000 x1001 (x138000.length : Int)).bind fun bt149 => ((spec_l30Rd_pick.f k x1000 bt149.2 16).bind fun bt151 => (if bt151.1 = 0 then ((some (([(-1), 60000, 60001, 0] : List Int) : List Int)).bind fun y153 => ((spec_l30Rd_pick.f k x1000 bt151.2 4).bind fun bt156 => (if 0 ≤ bt156.1 then (if bt156.1 < (y153.length : Int) then (if 0 ≤ bt149.1 then (if bt149.1 < (x138000.length : Int) then (some ((x138000.set (bt149.1 : Int).toNat (rd y153 bt156.1)), x138001, bt156.2)) else (none)) else (none)) else (none)) else (none)))) else (if bt151.1 = 1 then ((some (([(-1), 60001, 5] : List Int) : List Int)).bind fun y160 => ((spec_l30Rd_pick.f k x1000 bt151.2 3).bind fun bt163 => (if 0 ≤ bt163.1 then (if bt163.1 < (y160.length : Int) then (if 0 ≤ bt149.1 then (if bt149.1 < (x138001.length : Int) then (some (x138000, (x138001.set (bt149.1 : Int).toNat (rd y160 bt163.1)), bt163.2)) else (none)) else (none)) else (none)) else (none)))) else (if bt151.1 = 2 then (if x138001.length < 17592186044416 then (some (x138000, (x138001 ++ [0]), bt151.2)) else (none)) else (if bt151.1 = 3 then (some ((([] : List Int)), x138001, bt151.2)) else (some (x138000, x138001, bt151.2))))))))
def spec_l31Book.f (k : Nat) (s0_0 : List Int) (s0_1 : Int) : Option (List Int × List Int × Int) := (spec_l30Rd_pick.f k s0_0 s0_1 4).bind fun bt129 => ((spec_HrdNew.f k (wrap64 (1 + bt129.1))).bind fun bt131 => (spec_l31Book.l0 k 0 s0_0 bt129.2 bt131.1 bt131.2))
theorem spec_l31Book.mono_l : ∀ k, (∀ y0 y1 y2 y3 y4, LeO (spec_l31Book.l0 k y0 y1 y2 y3 y4) (spec_l31Book.l0 (k + 1) y0 y1 y2 y3 y4))
 | 0 => fun _ _ _ _ _ r h => by simp [spec_l31Book.l0] at h
 | k + 1 => by
  have ih0 := spec_l31Book.mono_l k
  ·intro y0 y1 y2 y3 y4
   unfold spec_l31Book.l0
   repeat' first
   | (with_reducible exact ih0 _ _ _ _ _)
   | (with_reducible exact spec_HrdNew.mono _ _)
   | (with_reducible exact spec_l30Rd_pick.mono _ _ _ _)
   | (with_reducible exact LeO.refl _)
   | (with_reducible exact LeO.none _)
   | (with_reducible refine LeO.ite ?_ ?_)
   | (with_reducible refine LeO.bind ?_ (fun _ => ?_))
   | exact ih0 _ _ _ _ _
   | exact spec_HrdNew.mono _ _
   | exact spec_l30Rd_pick.mono _ _ _ _
   | exact LeO.none _
   | refine LeO.ite ?_ ?_
   | refine LeO.bind ?_ (fun _ => ?_)
theorem spec_l31Book.mono : ∀ a0 a1 k, LeO (spec_l31Book.f k a0 a1) (spec_l31Book.f (k + 1) a0 a1) := by
 intro a0 a1 k
 have ih0 := spec_l31Book.mono_l k
 unfold spec_l31Book.f
 repeat' first
   | (with_reducible exact ih0 _ _ _ _ _)
   | (with_reducible exact spec_HrdNew.mono _ _)
   | (with_reducible exact spec_l30Rd_pick.mono _ _ _ _)
   | (with_reducible exact LeO.refl _)
   | (with_reducible exact LeO.none _)
   | (with_reducible refine LeO.ite ?_ ?_)
   | (with_reducible refine LeO.bind ?_ (fun _ => ?_))
   | exact ih0 _ _ _ _ _
   | exact spec_HrdNew.mono _ _
   | exact spec_l30Rd_pick.mono _ _ _ _
   | exact LeO.none _
   | refine LeO.ite ?_ ?_
   | refine LeO.bind ?_ (fun _ => ?_)
def spec_l31Book.T7 : Bool × List (List Nat × List Nat) := (true, [([], []), ([0], [0]), ([], []), ([], []), ([], []), ([4], [4]), ([3, 5], [3, 5]), ([6], [6]), ([1, 2, 0, 1, 2, 3, 4, 5, 6, 7], [1, 2]), ([8, 7, 5, 0, 1, 2, 3, 4, 5, 6, 7], [7, 8])])
def spec_l31Book.B7 : List Nat := [0, 1, 0, 0, 0, 16, 56, 120, 255, 511]
theorem spec_l31Book.tab7 : rtab .any (opsOf Try.f52 7) = spec_l31Book.T7 := by kernel_rfl
theorem spec_l31Book.bits7 : waitsOk spec_l31Book.T7.2 spec_l31Book.B7 = true := by kernel_rfl
def spec_l31Book.T11 : Bool × List (List Nat × List Nat) := (true, [([], []), ([0], [0]), ([], []), ([], []), ([], []), ([4], [4]), ([3, 5], [3, 5]), ([6], [6]), ([1, 2, 0, 1, 2, 3, 4, 5, 6, 7], [1, 2]), ([8, 7, 5, 0, 1, 2, 3, 4, 5, 6, 7], [7, 8])])
def spec_l31Book.B11 : List Nat := [0, 1, 0, 0, 0, 16, 56, 120, 255, 511]
theorem spec_l31Book.tab11 : rtab .any (opsOf Try.f52 11) = spec_l31Book.T11 := by kernel_rfl
theorem spec_l31Book.bits11 : waitsOk spec_l31Book.T11.2 spec_l31Book.B11 = true := by kernel_rfl
def spec_l31Book.T13 : Bool × List (List Nat × List Nat) := (true, [([], []), ([0], [0]), ([], []), ([], []), ([], []), ([4], [4]), ([3, 5], [3, 5]), ([6], [6]), ([1, 2, 0, 1, 2, 3, 4, 5, 6, 7], [1, 2]), ([8, 7, 5, 0, 1, 2, 3, 4, 5, 6, 7], [7, 8])])
def spec_l31Book.B13 : List Nat := [0, 1, 0, 0, 0, 16, 56, 120, 255, 511]
theorem spec_l31Book.tab13 : rtab .any (opsOf Try.f52 13) = spec_l31Book.T13 := by kernel_rfl
theorem spec_l31Book.bits13 : waitsOk spec_l31Book.T13.2 spec_l31Book.B13 = true := by kernel_rfl
set_option maxHeartbeats 8000000 in
set_option maxRecDepth 100000 in
theorem spec_l31Book.calls (k : Nat) (g : Nat) (s0_0 : List Int) (s0_1 : Int) (r1 : List Int) (r2 : List Int) (r3 : Int) (w0 w : World) (hI : IsS93 w0 w g s0_0 s0_1) (hB : Below w0.heap.size w0 w) (h : spec_l31Book.f k s0_0 s0_1 = some (r1, r2, r3)) :
  Calls Try.prog 52 #[.pointer (some ⟨g, 0, none⟩)] w fun e w' => ∃ v0_ v1_ : Value, e = .returned (.agg #[v0_, v1_]) ∧ Kd.R (Kd.int .i64) 3 w' w.heap.size (fun k_ => some k_ ≠ (v1_ : Value).ownBlock) v0_ r1 ∧ Kd.R (Kd.int .i64) 3 w' w.heap.size (fun k_ => some k_ ≠ (v0_ : Value).ownBlock) v1_ r2 ∧ IsS93 w0 w' g s0_0 r3 ∧ Below w0.heap.size w0 w' ∧ KeepBut w w' g none := by
 have hu37 := Try.underlying37
 have HI0 := qM hI
 have HK := qM (KeepBut.refl w g none)
 have HL := qM hB.size
 clear hI
 have HW0 := qM hB.size
 have HB := qM hB
 clear hB
 have H : ((spec_l30Rd_pick.f k s0_0 s0_1 4).bind fun bt129 => ((spec_HrdNew.f k (wrap64 (1 + bt129.1))).bind fun bt131 => (spec_l31Book.l0 k 0 s0_0 bt129.2 bt131.1 bt131.2))) = some (r1, r2, r3) := h
 clear h
 replace H := Option.bind_eq_some_iff.mp H
 obtain ⟨⟨t129, t130⟩, A20, H⟩ := H
 replace H : ((spec_HrdNew.f k (wrap64 (1 + t129))).bind fun bt131 => (spec_l31Book.l0 k 0 s0_0 t130 bt131.1 bt131.2)) = some (r1, r2, r3) := H
 have A2 := qM A20
 clear A20
 replace H := Option.bind_eq_some_iff.mp H
 obtain ⟨⟨t131, t134⟩, A30, H⟩ := H
 replace H : (spec_l31Book.l0 k 0 s0_0 t130 t131 t134) = some (r1, r2, r3) := H
 have A3 := qM A30
 clear A30
 have H' := qM H
 clear H
 go_enter Try.func52, Try.ntmps52
 go_wp2_with (first | ((with_reducible refine gate_dst (N := 2) rfl ?_); refine box_event ?hg (N := 2) ?hd (cs := #[.slice none 0 0, .slice none 0 0]) (t := 37) ?hr ?_; (case hd => rfl); (case hg => rfl); (case hr => first | (go_simp; done) | (go_simp; rfl)); intro gb128 hg w4 hbox hb; have n0_ := qM (IsS93.below (by repeat (first | (with_reducible first | exact HI0.out | apply IsS93.alloc | apply IsS93.drewN | apply IsS93.drew | apply IsS93.set_1) | exact HI0.out)) hb); have n1_ := qM (KeepBut.trans (by repeat (first | (with_reducible first | exact HK.out | apply KeepBut.set_ | apply keep_drewN | apply keep_drew | apply keep_alloc) | exact HK.out)) (KeepBut.of_below hb g none) (.inl rfl)); have n2_ := qM (below_step (by repeat (first | (with_reducible first | exact HB.out | apply yA | apply yN | apply yD | refine yS ?_ (IsS93.ge HI0.out)) | exact HB.out)) hb); have n3_ := qM (hbox); have n4_ := qM ((by rw [hg]; exact (keep_size (w := w) (g := g) (row := none) (by repeat (first | (with_reducible first | exact HK.out | apply KeepBut.set_ | apply keep_drewN | apply keep_drew | apply keep_alloc) | exact HK.out))) : w.heap.size ≤ gb128)); have n5_ := qM ((Nat.le_trans HW0.out (by rw [hg]; exact (keep_size (w := w) (g := g) (row := none) (by repeat (first | (with_reducible first | exact HK.out | apply KeepBut.set_ | apply keep_drewN | apply keep_drew | apply keep_alloc) | exact HK.out))) : w.heap.size ≤ gb128) : w0.heap.size ≤ gb128)); have n6_ := qM ((by rw [hg]; exact Nat.ne_of_lt (IsS93.lt (show IsS93 w0 _ g s0_0 s0_1 from by repeat (first | (with_reducible first | exact HI0.out | apply IsS93.alloc | apply IsS93.drewN | apply IsS93.drew | apply IsS93.set_1) | exact HI0.out))) : g ≠ gb128)); have n7_ := qM ((by rw [hg]; exact Nat.ne_of_gt (IsS93.lt (show IsS93 w0 _ g s0_0 s0_1 from by repeat (first | (with_reducible first | exact HI0.out | apply IsS93.alloc | apply IsS93.drewN | apply IsS93.drew | apply IsS93.set_1) | exact HI0.out))) : gb128 ≠ g)); clear HI0; clear HK; clear HB; have HI0 := n0_; have HK := n1_; have HB := n2_; have BK128 := n3_; have GW128 := n4_; have GE128 := n5_; have NB0_128 := n6_; have NB128_0 := n7_; clear n0_ n1_ n2_ n3_ n4_ n5_ n6_ n7_; clear hb hbox hg) | ((with_reducible refine gate_callee (f := 53) rfl ?_); refine goesL_ (some 7) rfl rfl Try.func53 (by kernel_rfl) rfl #[.pointer (some ⟨g, 0, none⟩), .int .i64 4] rfl (by (try simp only [List.map_toArray, List.map_cons, List.map_nil]); first | done | rfl | (simp only [List.length_drop, List.length_take]; rfl)) ?_; (with_reducible refine (spec_l30Rd_pick.calls k g s0_0 s0_1 4 t129 t130 w0 _ ?side1 ?side2 A2.out).mono ?_); (case side1 => repeat (first | (with_reducible first | exact HI0.out | apply IsS93.alloc | apply IsS93.drewN | apply IsS93.drew | apply IsS93.set_1 | refine IsS93.far ?_ NB0_128.out _) | exact HI0.out)); (case side2 => repeat (first | (with_reducible first | exact HB.out | apply yA | apply yN | apply yD | refine yS ?_ (IsS93.ge HI0.out) | refine yS ?_ GE128.out) | exact HB.out)); rintro e w5 ⟨rfl, hi, hb, hk⟩; refine ⟨_, rfl, ?_⟩; have n0_ := qM (KeepBut.blk hk (g' := gb128) (o := .cells #[.slice none 0 0, .slice none 0 0] 37 (0, 0)) (by (with_reducible repeat (first | refine zN ?_ _ | refine zD ?_ | refine zA ?_ _)); exact BK128.out) NB128_0.out (by simp)); have n1_ := qM (KeepBut.trans (by repeat (first | (with_reducible first | exact HK.out | apply KeepBut.set_ | apply keep_drewN | apply keep_drew | apply keep_alloc | refine keep_far ?_ GW128.out _) | exact HK.out)) hk (.inl rfl)); have n2_ := qM (hb); have n3_ := qM (hi); clear BK128; clear HK; clear HB; clear HI0; have BK128 := n0_; have HK := n1_; have HB := n2_; have HI0 := n3_; clear n0_ n1_ n2_ n3_; (try clear hb); (try clear hb2); (try clear hk); (try clear hi)) | ((with_reducible refine gate_callee (f := 20) rfl ?_); refine goesL_ (some 9) rfl rfl Try.func20 (by kernel_rfl) rfl #[.int .i64 (wrap64 (1 + t129))] rfl (by (try simp only [List.map_toArray, List.map_cons, List.map_nil]); first | done | rfl | (simp only [List.length_drop, List.length_take]; rfl)) ?_; (with_reducible refine (spec_HrdNew.calls k (wrap64 (1 + t129)) t131 t134 _ A3.out).mono ?_); rintro e w6 ⟨v132, v135, rfl, ho0, ho1, hb⟩; refine ⟨_, rfl, ?_⟩; have n0_ := qM (Kd.R_lower ho0 (keep_size (w := w) (g := g) (row := none) (by repeat (first | (with_reducible first | exact HK.out | apply KeepBut.set_ | apply keep_drewN | apply keep_drew | apply keep_alloc | refine keep_far ?_ GW128.out _) | exact HK.out)))); have n1_ := qM (Kd.R_lower ho1 (keep_size (w := w) (g := g) (row := none) (by repeat (first | (with_reducible first | exact HK.out | apply KeepBut.set_ | apply keep_drewN | apply keep_drew | apply keep_alloc | refine keep_far ?_ GW128.out _) | exact HK.out)))); have n2_ := qM (IsS93.below (by repeat (first | (with_reducible first | exact HI0.out | apply IsS93.alloc | apply IsS93.drewN | apply IsS93.drew | apply IsS93.set_1 | refine IsS93.far ?_ NB0_128.out _) | exact HI0.out)) hb); have n3_ := qM (blk_below (g := gb128) (o := .cells #[.slice none 0 0, .slice none 0 0] 37 (0, 0)) (by (with_reducible repeat (first | refine zN ?_ _ | refine zD ?_ | refine zA ?_ _)); exact BK128.out) hb); have n4_ := qM (KeepBut.trans (by repeat (first | (with_reducible first | exact HK.out | apply KeepBut.set_ | apply keep_drewN | apply keep_drew | apply keep_alloc | refine keep_far ?_ GW128.out _) | exact HK.out)) (KeepBut.of_below hb g none) (.inl rfl)); have n5_ := qM (below_step (by repeat (first | (with_reducible first | exact HB.out | apply yA | apply yN | apply yD | refine yS ?_ (IsS93.ge HI0.out) | refine yS ?_ GE128.out) | exact HB.out)) hb); clear HI0; clear BK128; clear HK; clear HB; have HO133 := n0_; have HO136 := n1_; have HI0 := n2_; have BK128 := n3_; have HK := n4_; have HB := n5_; clear n0_ n1_ n2_ n3_ n4_ n5_; (try clear hb); (try clear hb2); (try clear hk); (try clear hi); (try clear ho0); (try clear ho1)) | ((with_reducible refine gate_dst (N := 3) rfl ?_); refine box_event ?hg (N := 3) ?hd (cs := #[.slice none 0 0, .slice none 0 0]) (t := 37) ?hr ?_; (case hd => rfl); (case hg => rfl); (case hr => first | (go_simp; done) | (go_simp; rfl)); intro gb137 hg w7 hbox hb; have n0_ := qM (Kd.R_below (by (with_reducible repeat (first | apply qA | apply qN | apply qD)); exact HO133.out) hb); have n1_ := qM (Kd.R_below (by (with_reducible repeat (first | apply qA | apply qN | apply qD)); exact HO136.out) hb); have n2_ := qM (IsS93.below (by repeat (first | (with_reducible first | exact HI0.out | apply IsS93.alloc | apply IsS93.drewN | apply IsS93.drew | apply IsS93.set_1 | refine IsS93.far ?_ NB0_128.out _) | exact HI0.out)) hb); have n3_ := qM (blk_below (g := gb128) (o := .cells #[.slice none 0 0, .slice none 0 0] 37 (0, 0)) (by (with_reducible repeat (first | refine zN ?_ _ | refine zD ?_ | refine zA ?_ _)); exact BK128.out) hb); have n4_ := qM (KeepBut.trans (by repeat (first | (with_reducible first | exact HK.out | apply KeepBut.set_ | apply keep_drewN | apply keep_drew | apply keep_alloc | refine keep_far ?_ GW128.out _) | exact HK.out)) (KeepBut.of_below hb g none) (.inl rfl)); have n5_ := qM (below_step (by repeat (first | (with_reducible first | exact HB.out | apply yA | apply yN | apply yD | refine yS ?_ (IsS93.ge HI0.out) | refine yS ?_ GE128.out) | exact HB.out)) hb); have n6_ := qM (hbox); have n7_ := qM ((by rw [hg]; exact (keep_size (w := w) (g := g) (row := none) (by repeat (first | (with_reducible first | exact HK.out | apply KeepBut.set_ | apply keep_drewN | apply keep_drew | apply keep_alloc | refine keep_far ?_ GW128.out _) | exact HK.out))) : w.heap.size ≤ gb137)); have n8_ := qM ((Nat.le_trans HW0.out (by rw [hg]; exact (keep_size (w := w) (g := g) (row := none) (by repeat (first | (with_reducible first | exact HK.out | apply KeepBut.set_ | apply keep_drewN | apply keep_drew | apply keep_alloc | refine keep_far ?_ GW128.out _) | exact HK.out))) : w.heap.size ≤ gb137) : w0.heap.size ≤ gb137)); have n9_ := qM ((by rw [hg]; exact Nat.ne_of_lt (blk_lt (g := gb128) (o := .cells #[.slice none 0 0, .slice none 0 0] 37 (0, 0)) (by (with_reducible repeat (first | refine zN ?_ _ | refine zD ?_ | refine zA ?_ _)); exact BK128.out)) : gb128 ≠ gb137)); have n10_ := qM ((by rw [hg]; exact Nat.ne_of_gt (blk_lt (g := gb128) (o := .cells #[.slice none 0 0, .slice none 0 0] 37 (0, 0)) (by (with_reducible repeat (first | refine zN ?_ _ | refine zD ?_ | refine zA ?_ _)); exact BK128.out)) : gb137 ≠ gb128)); have n11_ := qM ((by rw [hg]; exact Nat.ne_of_lt (IsS93.lt (show IsS93 w0 _ g s0_0 t130 from by repeat (first | (with_reducible first | exact HI0.out | apply IsS93.alloc | apply IsS93.drewN | apply IsS93.drew | apply IsS93.set_1 | refine IsS93.far ?_ NB0_128.out _) | exact HI0.out))) : g ≠ gb137)); have n12_ := qM ((by rw [hg]; exact Nat.ne_of_gt (IsS93.lt (show IsS93 w0 _ g s0_0 t130 from by repeat (first | (with_reducible first | exact HI0.out | apply IsS93.alloc | apply IsS93.drewN | apply IsS93.drew | apply IsS93.set_1 | refine IsS93.far ?_ NB0_128.out _) | exact HI0.out))) : gb137 ≠ g)); clear HO133; clear HO136; clear HI0; clear BK128; clear HK; clear HB; have HO133 := n0_; have HO136 := n1_; have HI0 := n2_; have BK128 := n3_; have HK := n4_; have HB := n5_; have BK137 := n6_; have GW137 := n7_; have GE137 := n8_; have NB128_137 := n9_; have NB137_128 := n10_; have NB0_137 := n11_; have NB137_0 := n12_; clear n0_ n1_ n2_ n3_ n4_ n5_ n6_ n7_ n8_ n9_ n10_ n11_ n12_; clear hb hbox hg; obtain ⟨Ao8, co8, eo8⟩ := Kd.R_slice HO133.out; subst eo8; have hnb9 := NB137_128.out; have hnc9 := NB128_137.out; have hnb10 := NB137_0.out; have hnc10 := NB0_137.out; have hcz11_0 : w7.cell? ⟨gb137, 0, none⟩ = some (.slice none 0 0) := (zC BK137.out 0).trans rfl; have hcz11_1 : w7.cell? ⟨gb137, 1, none⟩ = some (.slice none 0 0) := (zC BK137.out 1).trans rfl; have hfz11_0 := zF BK137.out 0; have hfz11_1 := zF BK137.out 1; obtain ⟨Ao12, co12, eo12⟩ := Kd.R_slice HO136.out; subst eo12))
 go_loopg [4] k (fun kq v4 w' => ∃ (x4_1 : Int) (x1001_1 : Int) (x138000_1 : List Int) (x138001_1 : List Int) (u138000 : Value) (u138001 : Value), v4 = .int .i64 x4_1 ∧ Aside0 (spec_l31Book.l0 kq x4_1 s0_0 x1001_1 x138000_1 x138001_1 = some (r1, r2, r3)) ∧ Aside0 (kq ≤ k) ∧ Aside0 (Kd.R (Kd.int .i64) 3 w' w.heap.size (fun k_ => some k_ ≠ (u138001 : Value).ownBlock) u138000 x138000_1) ∧ Aside0 (Kd.R (Kd.int .i64) 3 w' w.heap.size (fun k_ => some k_ ≠ (u138000 : Value).ownBlock) u138001 x138001_1) ∧ Aside0 (w'.heap[gb128]? = some (.cells #[(.slice none 0 0), (.slice none 0 0)] 37 (0, 0))) ∧ Aside0 (w'.heap[gb137]? = some (.cells #[u138000, u138001] 37 (0, 0))) ∧ Aside0 (IsS93 w0 w' g s0_0 x1001_1) ∧ Aside0 (KeepBut w w' g none) ∧ Aside0 (Below w0.heap.size w0 w'))
 case atStart => exact ⟨(0), (t130), (t131), (t134), (.slice Ao8 t131.length co8), (.slice Ao12 t134.length co12), (by first | rfl | (simp; done) | (simp [*]; done)), H', ⟨Nat.le_refl _⟩, ⟨by (with_reducible repeat (first | apply qA | apply qN | apply qD)); exact Kd.R_mono (qF (p := ⟨gb137, 1, none⟩) (qF (p := ⟨gb137, 0, none⟩) (Kd.R_types HO133.out BK137.out (by decide)) (fun _ hk => hk.2) (.slice Ao8 t131.length co8)) (fun _ hk => hk.2) (.slice Ao12 t134.length co12)) (fun _ hk => hk.1)⟩, ⟨by (with_reducible repeat (first | apply qA | apply qN | apply qD)); exact Kd.R_mono (qF (p := ⟨gb137, 1, none⟩) (qF (p := ⟨gb137, 0, none⟩) (Kd.R_types HO136.out BK137.out (by decide)) (fun _ hk => hk.2) (.slice Ao8 t131.length co8)) (fun _ hk => hk.2) (.slice Ao12 t134.length co12)) (fun _ hk => hk.1)⟩, ⟨by (with_reducible repeat (first | refine zN ?_ _ | refine zD ?_ | refine zA ?_ _)); refine blk_far ?_ NB128_137.out _; (with_reducible repeat (first | refine zN ?_ _ | refine zD ?_ | refine zA ?_ _)); refine blk_far ?_ NB128_137.out _; (with_reducible repeat (first | refine zN ?_ _ | refine zD ?_ | refine zA ?_ _)); exact BK128.out⟩, ⟨by (with_reducible repeat (first | refine zN ?_ _ | refine zD ?_ | refine zA ?_ _)); refine blk_put (cs := #[.slice Ao8 t131.length co8, .slice none 0 0]) ?_ 1 _ rfl; (with_reducible repeat (first | refine zN ?_ _ | refine zD ?_ | refine zA ?_ _)); refine blk_put (cs := #[.slice none 0 0, .slice none 0 0]) ?_ 0 _ rfl; (with_reducible repeat (first | refine zN ?_ _ | refine zD ?_ | refine zA ?_ _)); exact BK137.out⟩, ⟨by repeat (first | (with_reducible first | exact HI0.out | apply IsS93.alloc | apply IsS93.drewN | apply IsS93.drew | apply IsS93.set_1 | refine IsS93.far ?_ NB0_128.out _ | refine IsS93.far ?_ NB0_137.out _) | exact HI0.out)⟩, ⟨by repeat (first | (with_reducible first | exact HK.out | apply KeepBut.set_ | apply keep_drewN | apply keep_drew | apply keep_alloc | refine keep_far ?_ GW128.out _ | refine keep_far ?_ GW137.out _) | exact HK.out)⟩, ⟨by repeat (first | (with_reducible first | exact HB.out | apply yA | apply yN | apply yD | refine yS ?_ (IsS93.ge HI0.out) | refine yS ?_ GE128.out | refine yS ?_ GE137.out) | exact HB.out)⟩⟩
 case round =>
  clear H'
  try clear c1
  try clear c2
  try clear p2
  try clear c5
  try clear p6
  try clear c9
  try clear c10
  try clear hcz11_0
  try clear hcz11_1
  try clear hfz11_0
  try clear hfz11_1
  obtain ⟨x4_1, x1001_1, x138000_1, x138001_1, u138000, u138001, rfl, HA, HK1, HO_138000, HO_138001, BK128, BK137, HI0, HK, HB⟩ := hrel
  obtain ⟨AqS, cqS, eqS⟩ := Kd.R_slice HO_138001.out
  subst eqS
  cases gk with
  | zero => exact absurd HA.out (by simp [spec_l31Book.l0])
  | succ k1 =>
   have H := HA.out
   clear HA
   simp only [spec_l31Book.l0] at H
   by_cases c13 : x4_1 < (x138000_1.length : Int)
   ·rw [if_pos c13] at H
    have c13b0 : decide (x4_1 < (x138000_1.length : Int)) = true := decide_eq_true c13
    clear c13
    replace H := Option.bind_eq_some_iff.mp H
    obtain ⟨⟨t138, t139⟩, A140, H⟩ := H
    replace H : (if 0 ≤ x4_1 then ((some (x138000_1.set (x4_1 : Int).toNat t138 : List Int)).bind fun y140 => (if t138 > 0 then ((some (([0, 1, 2, 30, 60000] : List Int) : List Int)).bind fun y142 => ((spec_l30Rd_pick.f k1 s0_0 t139 5).bind fun bt145 => (if 0 ≤ bt145.1 then (if bt145.1 < (y142.length : Int) then (if x4_1 < (x138001_1.length : Int) then (spec_l31Book.l0 k1 (wrap64 (x4_1 + 1)) s0_0 bt145.2 y140 (x138001_1.set (x4_1 : Int).toNat (rd y142 bt145.1))) else (none)) else (none)) else (none)))) else (spec_l31Book.l0 k1 (wrap64 (x4_1 + 1)) s0_0 t139 y140 x138001_1))) else (none)) = some (r1, r2, r3) := H
    have A14 := qM A140
    clear A140
    by_cases c15 : 0 ≤ x4_1
    ·rw [if_pos c15] at H
     have c15b0 : decide (0 ≤ x4_1) = true := decide_eq_true c15
     clear c15
     obtain ⟨y140, hy140⟩ : ∃ y_ : List Int, y_ = (x138000_1.set (x4_1 : Int).toNat t138) := ⟨_, rfl⟩
     replace H : (if t138 > 0 then ((some (([0, 1, 2, 30, 60000] : List Int) : List Int)).bind fun y142 => ((spec_l30Rd_pick.f k1 s0_0 t139 5).bind fun bt145 => (if 0 ≤ bt145.1 then (if bt145.1 < (y142.length : Int) then (if x4_1 < (x138001_1.length : Int) then (spec_l31Book.l0 k1 (wrap64 (x4_1 + 1)) s0_0 bt145.2 y140 (x138001_1.set (x4_1 : Int).toNat (rd y142 bt145.1))) else (none)) else (none)) else (none)))) else (spec_l31Book.l0 k1 (wrap64 (x4_1 + 1)) s0_0 t139 y140 x138001_1)) = some (r1, r2, r3) := by first | (rw [hy140]; with_reducible exact H) | (have H2_ := (Option.bind_some _ _).symm.trans H; rw [hy140]; with_reducible exact H2_) | (have H2_ := (Option.bind_some _ _).symm.trans H; with_reducible exact H2_) | with_reducible exact H | (rw [hy140]; exact H) | exact H
     have Ny140 := qM hy140
     clear hy140
     by_cases c18 : t138 > 0
     ·rw [if_pos c18] at H
      have c18b0 : decide (0 < t138) = true := decide_eq_true c18
      clear c18
      obtain ⟨y142, hy142⟩ : ∃ y_ : List Int, y_ = (([0, 1, 2, 30, 60000] : List Int)) := ⟨_, rfl⟩
      replace H : ((spec_l30Rd_pick.f k1 s0_0 t139 5).bind fun bt145 => (if 0 ≤ bt145.1 then (if bt145.1 < (y142.length : Int) then (if x4_1 < (x138001_1.length : Int) then (spec_l31Book.l0 k1 (wrap64 (x4_1 + 1)) s0_0 bt145.2 y140 (x138001_1.set (x4_1 : Int).toNat (rd y142 bt145.1))) else (none)) else (none)) else (none))) = some (r1, r2, r3) := by first | (rw [hy142]; with_reducible exact H) | (have H2_ := (Option.bind_some _ _).symm.trans H; rw [hy142]; with_reducible exact H2_) | (have H2_ := (Option.bind_some _ _).symm.trans H; with_reducible exact H2_) | with_reducible exact H | (rw [hy142]; exact H) | exact H
      have Ny142 := qM hy142
      clear hy142
      replace H := Option.bind_eq_some_iff.mp H
      obtain ⟨⟨t145, t146⟩, A190, H⟩ := H
      replace H : (if 0 ≤ t145 then (if t145 < (y142.length : Int) then (if x4_1 < (x138001_1.length : Int) then (spec_l31Book.l0 k1 (wrap64 (x4_1 + 1)) s0_0 t146 y140 (x138001_1.set (x4_1 : Int).toNat (rd y142 t145))) else (none)) else (none)) else (none)) = some (r1, r2, r3) := H
      have A19 := qM A190
      clear A190
      by_cases c20 : 0 ≤ t145
      ·rw [if_pos c20] at H
       have c20b0 : decide (0 ≤ t145) = true := decide_eq_true c20
       clear c20
       by_cases c21 : t145 < (y142.length : Int)
       ·rw [if_pos c21] at H
        have c21b0 : decide (t145 < (y142.length : Int)) = true := decide_eq_true c21
        clear c21
        by_cases c22 : x4_1 < (x138001_1.length : Int)
        ·rw [if_pos c22] at H
         have c22b0 : decide (x4_1 < (x138001_1.length : Int)) = true := decide_eq_true c22
         clear c22
         obtain ⟨y148, hy148⟩ : ∃ y_ : List Int, y_ = (x138001_1.set (x4_1 : Int).toNat (rd y142 t145)) := ⟨_, rfl⟩
         replace H : (spec_l31Book.l0 k1 (wrap64 (x4_1 + 1)) s0_0 t146 y140 y148) = some (r1, r2, r3) := by first | (rw [hy148]; with_reducible exact H) | (have H2_ := (Option.bind_some _ _).symm.trans H; rw [hy148]; with_reducible exact H2_) | (have H2_ := (Option.bind_some _ _).symm.trans H; with_reducible exact H2_) | with_reducible exact H | (rw [hy148]; exact H) | exact H
         have Ny148 := qM hy148
         clear hy148
         have H' := qM H
         clear H
         have hnb24 := NB137_128.out
         have hnc24 := NB128_137.out
         have hnb25 := NB137_0.out
         have hnc25 := NB0_137.out
         have hcz26_0 : wr.cell? ⟨gb137, 0, none⟩ = some (u138000) := (zC BK137.out 0).trans rfl
         have hcz26_1 : wr.cell? ⟨gb137, 1, none⟩ = some ((.slice AqS x138001_1.length cqS)) := (zC BK137.out 1).trans rfl
         have hfz26_0 := zF BK137.out 0
         have hfz26_1 := zF BK137.out 1
         obtain ⟨Ao27, co27, eo27⟩ := Kd.R_slice HO_138000.out
         subst eo27
         try go_wp2
         have n0_ := qM (qD HO_138000.out)
         have n1_ := qM (qD HO_138001.out)
         have n2_ := qM (zD BK128.out)
         have n3_ := qM (zD BK137.out)
         have n4_ := qM (IsS93.drew HI0.out)
         have n5_ := qM (keep_drew HK.out)
         have n6_ := qM (yD HB.out)
         clear HO_138000
         clear HO_138001
         clear BK128
         clear BK137
         clear HI0
         clear HK
         clear HB
         have HO_138000 := n0_
         have HO_138001 := n1_
         have BK128 := n2_
         have BK137 := n3_
         have HI0 := n4_
         have HK := n5_
         have HB := n6_
         clear n0_ n1_ n2_ n3_ n4_ n5_ n6_
         refine start_ (n := 7) (S := fun w' => w'.cell? ⟨gb137, 0, none⟩ = some (.slice Ao27 x138000_1.length co27) ∧ w'.cell? ⟨gb137, 1, none⟩ = some ((.slice AqS x138001_1.length cqS))) (ds := [6]) #[false, false, false, false, false, false, false] (by kernel_rfl) rfl rfl ⟨(zC BK137.out 0).trans rfl, (zC BK137.out 1).trans rfl⟩ (fun hHeld => ?_)
         generalize wr.drew = w28 at HO_138000 HO_138001 BK128 BK137 HI0 HK HB hHeld ⊢
         refine pure_ (i := 0) (N := some 17) (v := ?_) (a' := ?_) #[true, false, false, false, false, false, false] rfl rfl (by kernel_rfl) (fun _ _ _ h => h) (Or.inl ⟨by rfl, ?_⟩) ?_ ?_
         rotate_left
         ·intro w'
          go_simp
          with_reducible rfl
         rotate_left
         ·simp only [Act.put, List.setIfInBounds_toArray, List.set_cons_zero, List.set_cons_succ, i64_w, i32_w]
          rfl
         refine pure_ (i := 2) (N := some 19) (v := ?_) (a' := ?_) #[true, false, true, false, false, false, false] rfl rfl (by kernel_rfl) (fun _ _ _ h => h) (Or.inl ⟨by rfl, ?_⟩) ?_ ?_
         rotate_left
         ·intro w'
          go_simp
          with_reducible rfl
         rotate_left
         ·simp only [Act.put, List.setIfInBounds_toArray, List.set_cons_zero, List.set_cons_succ, i64_w, i32_w]
          rfl
         refine pure_ (i := 3) (N := some 20) (v := ?_) (a' := ?_) #[true, false, true, true, false, false, false] rfl rfl (by kernel_rfl) (fun _ _ _ h => h) (Or.inl ⟨by rfl, ?_⟩) ?_ ?_
         rotate_left
         ·intro w'
          go_simp
          with_reducible rfl
         rotate_left
         ·simp only [Act.put, List.setIfInBounds_toArray, List.set_cons_zero, List.set_cons_succ, i64_w, i32_w]
          rfl
         refine take_ (i := 1) (N := some 18) (v := ?_) (a' := ?_) #[true, true, true, true, false, false, false] rfl rfl (by kernel_rfl) (fun _ _ _ h => h) (Or.inl ⟨by rfl, ?_⟩) hHeld ?_ ?_
         rotate_left
         ·rintro w' ⟨s0, s1⟩
          go_simp
          with_reducible rfl
         rotate_left
         ·simp only [Act.put, List.setIfInBounds_toArray, List.set_cons_zero, List.set_cons_succ, i64_w, i32_w]
          rfl
         refine one_ (i := 4) (N := some 21) #[true, true, true, true, true, false, false] rfl rfl (by kernel_rfl) (by decide) (fun K hK => ?_)
         refine goes_ Try.func53 (by kernel_rfl) rfl #[.pointer (some ⟨g, 0, none⟩), .int .i64 4] (by rfl) rfl rfl (by (try simp only [List.map_toArray, List.map_cons, List.map_nil]); first | done | rfl | (simp only [List.length_drop, List.length_take]; rfl)) ?_
         with_reducible refine (spec_l30Rd_pick.calls k1 g s0_0 x1001_1 4 t138 t139 w0 _ ?side1 ?side2 A14.out).mono ?_
         (case side1 => repeat (first | (with_reducible first | exact HI0.out | apply IsS93.alloc | apply IsS93.drewN | apply IsS93.drew | apply IsS93.set_1 | refine IsS93.far ?_ NB0_128.out _ | refine IsS93.far ?_ NB0_137.out _) | exact HI0.out))
         (case side2 => repeat (first | (with_reducible first | exact HB.out | apply yA | apply yN | apply yD | refine yS ?_ (IsS93.ge HI0.out) | refine yS ?_ GE128.out | refine yS ?_ GE137.out) | exact HB.out))
         rintro e w29 ⟨rfl, hi, hb, hk⟩
         refine ⟨_, rfl, ?_⟩
         have n0_ := qM (Kd.R_mono (Kd.R_keep (IsS93.apart (show IsS93 w0 _ g s0_0 x1001_1 from by repeat (first | (with_reducible first | exact HI0.out | apply IsS93.alloc | apply IsS93.drewN | apply IsS93.drew | apply IsS93.set_1 | refine IsS93.far ?_ NB0_128.out _ | refine IsS93.far ?_ NB0_137.out _) | exact HI0.out)) (by (with_reducible repeat (first | apply qA | apply qN | apply qD)); exact HO_138000.out) (by decide)) hk (fun _ h => h.2)) (fun _ h => h.1))
         have n1_ := qM (Kd.R_mono (Kd.R_keep (IsS93.apart (show IsS93 w0 _ g s0_0 x1001_1 from by repeat (first | (with_reducible first | exact HI0.out | apply IsS93.alloc | apply IsS93.drewN | apply IsS93.drew | apply IsS93.set_1 | refine IsS93.far ?_ NB0_128.out _ | refine IsS93.far ?_ NB0_137.out _) | exact HI0.out)) (by (with_reducible repeat (first | apply qA | apply qN | apply qD)); exact HO_138001.out) (by decide)) hk (fun _ h => h.2)) (fun _ h => h.1))
         have n2_ := qM (KeepBut.blk hk (g' := gb128) (o := .cells #[.slice none 0 0, .slice none 0 0] 37 (0, 0)) (by (with_reducible repeat (first | refine zN ?_ _ | refine zD ?_ | refine zA ?_ _)); exact BK128.out) NB128_0.out (by simp))
         have n3_ := qM (KeepBut.blk hk (g' := gb137) (o := .cells #[.slice Ao27 x138000_1.length co27, (.slice AqS x138001_1.length cqS)] 37 (0, 0)) (by (with_reducible repeat (first | refine zN ?_ _ | refine zD ?_ | refine zA ?_ _)); exact BK137.out) NB137_0.out (by simp))
         have n4_ := qM (KeepBut.trans (by repeat (first | (with_reducible first | exact HK.out | apply KeepBut.set_ | apply keep_drewN | apply keep_drew | apply keep_alloc | refine keep_far ?_ GW128.out _ | refine keep_far ?_ GW137.out _) | exact HK.out)) hk (.inl rfl))
         have n5_ := qM (hb)
         have n6_ := qM (hi)
         clear HO_138000
         clear HO_138001
         clear BK128
         clear BK137
         clear HK
         clear HB
         clear HI0
         have HO_138000 := n0_
         have HO_138001 := n1_
         have BK128 := n2_
         have BK137 := n3_
         have HK := n4_
         have HB := n5_
         have HI0 := n6_
         clear n0_ n1_ n2_ n3_ n4_ n5_ n6_
         (try clear hb)
         (try clear hb2)
         (try clear hk)
         (try clear hi)
         have p16 : 0 ≤ (x4_1 : Int) := of_decide_eq_true (by first | (with_reducible assumption) | assumption)
         have q16 : (x4_1 : Int) < ((x138000_1.length : Int) : Int) := of_decide_eq_true (by first | (with_reducible assumption) | assumption)
         obtain ⟨go16, co16, eo16, gb16, gl16, cl16, HG16⟩ := Kd.R_form HO_138000.out (by omega)
         (first | cases eo16 | (injection eo16 with ea_ en_ ec_; (first | subst ea_ | (injection ea_ with ea_; subst ea_)); subst ec_; clear en_))
         have GB16 := qM gb16
         have GG16 := qM HG16
         clear gb16 gl16 HG16
         obtain ⟨hx16_0, hf16_0⟩ := Kd.R_celln 0 HO_138000.out (x4_1 : Int) p16 q16
         replace p16 := eq_true p16
         replace q16 := eq_true q16
         have HN0_go16 := qM (show g ≠ go16 from by have h_ := IsS93.own_ne HI0.out HO_138000.out (by decide); intro e_; exact h_ (by rw [e_]; rfl))
         have HP30 := Kd.R_putn HO_138000.out (x4_1 : Int) t138
         rw [← Ny140.out] at HP30
         have HQ30 := qM HP30
         clear HP30
         refine hK.out _ _ ⟨(zC BK137.out 0).trans rfl, (zC BK137.out 1).trans rfl⟩ (fun hHeld => ?_)
         clear hK K
         refine norm_ (a' := ?_) ?_ ?_
         rotate_left
         ·show Act.put _ (some 21) _ = _
          simp only [Act.put, List.setIfInBounds_toArray, List.set_cons_zero, List.set_cons_succ, i64_w, i32_w]
          rfl
         refine pure_ (i := 5) (N := some 22) (v := ?_) (a' := ?_) #[true, true, true, true, true, true, false] rfl rfl (by kernel_rfl) (fun _ _ _ h => h) (Or.inl ⟨by rfl, ?_⟩) ?_ ?_
         rotate_left
         ·intro w'
          go_simp
          with_reducible rfl
         rotate_left
         ·simp only [Act.put, List.setIfInBounds_toArray, List.set_cons_zero, List.set_cons_succ, i64_w, i32_w]
          rfl
         refine last_ (i := 6) (N := none) #[true, true, true, true, true, true, true] rfl rfl (by kernel_rfl) (by decide) (fun K hK => ?_)
         refine skip_ (w1 := ?_) (by rfl) rfl ?_ ?_
         rotate_left
         ·go_simp
          rfl
         refine hK.out _ _ ?_
         clear hK K
         refine done_ (by kernel_rfl) ?_
         have hcz31_0 : w29.cell? ⟨gb137, 0, none⟩ = some (.slice (some ⟨go16, 0, none⟩) x138000_1.length co27) := (zC BK137.out 0).trans rfl
         have hcz31_1 : w29.cell? ⟨gb137, 1, none⟩ = some ((.slice AqS x138001_1.length cqS)) := (zC BK137.out 1).trans rfl
         have hfz31_0 := zF BK137.out 0
         have hfz31_1 := zF BK137.out 1
         have p17 : 0 ≤ (x4_1 : Int) := of_decide_eq_true (by first | (with_reducible assumption) | assumption)
         have q17 : (x4_1 : Int) < ((x138000_1.length : Int) : Int) := of_decide_eq_true (by first | (with_reducible assumption) | assumption)
         replace p17 := eq_true p17
         replace q17 := eq_true q17
         have hnz_ : go16 ≠ gb137 := by have h_ := Kd.R_ne HO_138000.out BK137.out (by decide); intro e_; exact h_ (by rw [← e_]; rfl)
         have hzz_0 : (w29.setCell ⟨go16, (x4_1 : Int).toNat, none⟩ (.int .i64 t138)).cell? ⟨gb137, 0, none⟩ = some (.slice (some ⟨go16, 0, none⟩) x138000_1.length co27) := (World.cell?_setCell_far _ _ _ _ hnz_).trans hcz31_0
         have hzz_1 : (w29.setCell ⟨go16, (x4_1 : Int).toNat, none⟩ (.int .i64 t138)).cell? ⟨gb137, 1, none⟩ = some ((.slice AqS x138001_1.length cqS)) := (World.cell?_setCell_far _ _ _ _ hnz_).trans hcz31_1
         try go_wp2
         have pi147 : (0 ≤ (t145 : Int)) = True := eq_true (of_decide_eq_true (by first | (with_reducible assumption) | assumption))
         have qi147 : (t145 < (y142.length : Int)) = True := eq_true (of_decide_eq_true (by first | (with_reducible assumption) | assumption))
         have n0_ : Aside0 (Kd.R (Kd.int .i64) 3 (w29.setCell ⟨go16, (x4_1 : Int).toNat, none⟩ (.int .i64 t138)) w.heap.size (fun k_ => some k_ ≠ ((.slice AqS x138001_1.length cqS) : Value).ownBlock) (.slice (some ⟨go16, 0, none⟩) x138000_1.length co27) y140) := ⟨by (with_reducible repeat (first | apply qA | apply qN | apply qD)); exact HQ30.out⟩
         have n1_ : Aside0 (Kd.R (Kd.int .i64) 3 (w29.setCell ⟨go16, (x4_1 : Int).toNat, none⟩ (.int .i64 t138)) w.heap.size (fun k_ => some k_ ≠ (.slice (some ⟨go16, 0, none⟩) x138000_1.length co27 : Value).ownBlock) (.slice AqS x138001_1.length cqS) x138001_1) := ⟨by (with_reducible repeat (first | apply qA | apply qN | apply qD)); exact Kd.R_mono (qF (p := ⟨go16, (x4_1 : Int).toNat, none⟩) (Kd.R_mono HO_138001.out (fun k_ hk => (⟨hk, fun e_ => hk (by rw [e_]; rfl)⟩ : _ ∧ k_ ≠ go16))) (fun _ hk => hk.2) (.int .i64 t138)) (fun _ hk => hk.1)⟩
         have n2_ : Aside0 ((w29.setCell ⟨go16, (x4_1 : Int).toNat, none⟩ (.int .i64 t138)).heap[gb128]? = some (.cells #[.slice none 0 0, .slice none 0 0] 37 (0, 0))) := ⟨by (with_reducible repeat (first | refine zN ?_ _ | refine zD ?_ | refine zA ?_ _)); refine blk_far ?_ (by have h_ := Kd.R_ne HO_138000.out BK128.out (by decide); intro e_; exact h_ (by rw [e_]; rfl)) _; (with_reducible repeat (first | refine zN ?_ _ | refine zD ?_ | refine zA ?_ _)); exact BK128.out⟩
         have n3_ : Aside0 ((w29.setCell ⟨go16, (x4_1 : Int).toNat, none⟩ (.int .i64 t138)).heap[gb137]? = some (.cells #[.slice (some ⟨go16, 0, none⟩) x138000_1.length co27, (.slice AqS x138001_1.length cqS)] 37 (0, 0))) := ⟨by (with_reducible repeat (first | refine zN ?_ _ | refine zD ?_ | refine zA ?_ _)); refine blk_far ?_ (by have h_ := Kd.R_ne HO_138000.out BK137.out (by decide); intro e_; exact h_ (by rw [e_]; rfl)) _; (with_reducible repeat (first | refine zN ?_ _ | refine zD ?_ | refine zA ?_ _)); exact BK137.out⟩
         have n4_ : Aside0 (IsS93 w0 (w29.setCell ⟨go16, (x4_1 : Int).toNat, none⟩ (.int .i64 t138)) g s0_0 t139) := ⟨by repeat (first | (with_reducible first | exact HI0.out | apply IsS93.alloc | apply IsS93.drewN | apply IsS93.drew | apply IsS93.set_1 | refine IsS93.far ?_ HN0_go16.out _ | refine IsS93.far ?_ NB0_128.out _ | refine IsS93.far ?_ NB0_137.out _) | exact HI0.out)⟩
         have n5_ : Aside0 (KeepBut w (w29.setCell ⟨go16, (x4_1 : Int).toNat, none⟩ (.int .i64 t138)) g none) := ⟨by repeat (first | (with_reducible first | exact HK.out | apply KeepBut.set_ | apply keep_drewN | apply keep_drew | apply keep_alloc | refine keep_far ?_ GB16.out _ | refine keep_far ?_ GW128.out _ | refine keep_far ?_ GW137.out _) | exact HK.out)⟩
         have n6_ : Aside0 (Below w0.heap.size w0 (w29.setCell ⟨go16, (x4_1 : Int).toNat, none⟩ (.int .i64 t138))) := ⟨by repeat (first | (with_reducible first | exact HB.out | apply yA | apply yN | apply yD | refine yS ?_ (Nat.le_trans HL.out GB16.out) | refine yS ?_ (IsS93.ge HI0.out) | refine yS ?_ GE128.out | refine yS ?_ GE137.out) | exact HB.out)⟩
         (try clear HO_138000)
         (try clear HO_138001)
         (try clear BK128)
         (try clear BK137)
         (try clear HI0)
         (try clear HK)
         (try clear HB)
         generalize (w29.setCell ⟨go16, (x4_1 : Int).toNat, none⟩ (.int .i64 t138)) = w32 at n0_ n1_ n2_ n3_ n4_ n5_ n6_ ⊢
         have HO_138000 := n0_
         have HO_138001 := n1_
         have BK128 := n2_
         have BK137 := n3_
         have HI0 := n4_
         have HK := n5_
         have HB := n6_
         clear n0_ n1_ n2_ n3_ n4_ n5_ n6_
         have n0_ := qM (qD HO_138000.out)
         have n1_ := qM (qD HO_138001.out)
         have n2_ := qM (zD BK128.out)
         have n3_ := qM (zD BK137.out)
         have n4_ := qM (IsS93.drew HI0.out)
         have n5_ := qM (keep_drew HK.out)
         have n6_ := qM (yD HB.out)
         clear HO_138000
         clear HO_138001
         clear BK128
         clear BK137
         clear HI0
         clear HK
         clear HB
         have HO_138000 := n0_
         have HO_138001 := n1_
         have BK128 := n2_
         have BK137 := n3_
         have HI0 := n4_
         have HK := n5_
         have HB := n6_
         clear n0_ n1_ n2_ n3_ n4_ n5_ n6_
         refine start_ (n := 10) (S := fun w' => w'.cell? ⟨gb137, 0, none⟩ = some (.slice (some ⟨go16, 0, none⟩) x138000_1.length co27) ∧ w'.cell? ⟨gb137, 1, none⟩ = some ((.slice AqS x138001_1.length cqS))) (ds := [9]) #[false, false, false, false, false, false, false, false, false, false] (by kernel_rfl) rfl rfl ⟨(zC BK137.out 0).trans rfl, (zC BK137.out 1).trans rfl⟩ (fun hHeld => ?_); refine with_tabW spec_l31Book.tab7 spec_l31Book.bits7 (fun HT_ HW_ => ?_)
         generalize w32.drew = w33 at HO_138000 HO_138001 BK128 BK137 HI0 HK HB HQ30 hHeld ⊢
         refine pure_ (i := 0) (N := some 29) (v := ?_) (a' := ?_) #[true, false, false, false, false, false, false, false, false, false] rfl rfl (any_of HT_.out (by kernel_rfl)) (fun _ _ _ h => h) (Or.inl ⟨by rfl, ?_⟩) ?_ ?_
         rotate_left
         ·intro w'
          go_simp
          with_reducible rfl
         rotate_left
         ·simp only [Act.put, List.setIfInBounds_toArray, List.set_cons_zero, List.set_cons_succ, i64_w, i32_w]
          rfl
         refine pure_ (i := 2) (N := some 31) (v := ?_) (a' := ?_) #[true, false, true, false, false, false, false, false, false, false] rfl rfl (any_of HT_.out (by kernel_rfl)) (fun _ _ _ h => h) (Or.inl ⟨by rfl, ?_⟩) ?_ ?_
         rotate_left
         ·intro w'
          go_simp
          with_reducible rfl
         rotate_left
         ·simp only [Act.put, List.setIfInBounds_toArray, List.set_cons_zero, List.set_cons_succ, i64_w, i32_w]
          rfl
         refine pure_ (i := 4) (N := some 33) (v := ?_) (a' := ?_) #[true, false, true, false, true, false, false, false, false, false] rfl rfl (any_of HT_.out (by kernel_rfl)) (fun _ _ _ h => h) (Or.inl ⟨by rfl, ?_⟩) ?_ ?_
         rotate_left
         ·intro w'
          go_simp
          with_reducible rfl
         rotate_left
         ·simp only [Act.put, List.setIfInBounds_toArray, List.set_cons_zero, List.set_cons_succ, i64_w, i32_w]
          rfl
         refine take_ (i := 1) (N := some 30) (v := ?_) (a' := ?_) #[true, true, true, false, true, false, false, false, false, false] rfl rfl (take_ofW HT_.out HW_.out (by kernel_rfl)) (fun _ _ _ h => h) (Or.inl ⟨by rfl, ?_⟩) hHeld ?_ ?_
         rotate_left
         ·rintro w' ⟨s0, s1⟩
          go_simp
          with_reducible rfl
         rotate_left
         ·simp only [Act.put, List.setIfInBounds_toArray, List.set_cons_zero, List.set_cons_succ, i64_w, i32_w]
          rfl
         refine join_ (σ := Value × Addr) 4 #[true, true, true, true, true, true, false, false, false, false] (fun s_ => [(32, s_.1), (34, .int .i64 t145)]) (fun s_ w' => (w'.cell? ⟨gb137, 0, none⟩ = some (.slice (some ⟨go16, 0, none⟩) x138000_1.length co27) ∧ w'.cell? ⟨gb137, 1, none⟩ = some ((.slice AqS x138001_1.length cqS))) ∧ (Kd.R (Kd.int .i64) 3 w' w.heap.size (fun k_ => some k_ ≠ (.slice (some ⟨go16, 0, none⟩) x138000_1.length co27 : Value).ownBlock ∧ some k_ ≠ ((.slice AqS x138001_1.length cqS) : Value).ownBlock) s_.1 y142) ∧ (Kd.R (Kd.int .i64) 3 w' w.heap.size (fun k_ => some k_ ≠ (s_.1 : Value).ownBlock ∧ some k_ ≠ ((.slice AqS x138001_1.length cqS) : Value).ownBlock) (.slice (some ⟨go16, 0, none⟩) x138000_1.length co27) y140) ∧ (Kd.R (Kd.int .i64) 3 w' w.heap.size (fun k_ => some k_ ≠ (s_.1 : Value).ownBlock ∧ some k_ ≠ (.slice (some ⟨go16, 0, none⟩) x138000_1.length co27 : Value).ownBlock) (.slice AqS x138001_1.length cqS) x138001_1) ∧ (∃ c_, (s_.1 : Value) = .slice (some s_.2) y142.length c_) ∧ (w'.heap[gb128]? = some (.cells #[.slice none 0 0, .slice none 0 0] 37 (0, 0))) ∧ (w'.heap[gb137]? = some (.cells #[.slice (some ⟨go16, 0, none⟩) x138000_1.length co27, (.slice AqS x138001_1.length cqS)] 37 (0, 0))) ∧ (IsS93 w0 w' g s0_0 t146) ∧ (KeepBut w w' g none) ∧ (Below w0.heap.size w0 w')) ?_ ?_
         rotate_left
         ·intro hCont
          refine two_ (i := 3) (j := 5) (Ni := some 32) (Nj := some 34) #[true, true, true, true, true, false, false, false, false, false] #[true, true, true, false, true, true, false, false, false, false] rfl rfl rfl rfl (two_of HT_.out (by kernel_rfl)) (by decide) (by decide) (fun K hK => ?_) (fun K hK => ?_)
          ·skip
           refine Kd.R_lit_step (Kd.int .i64) _ 3 ?hg (N := 32) ?hd (xs := ([0, 1, 2, 30, 60000] : List Int)) (inner := [.int .i64 0, .int .i64 1, .int .i64 2, .int .i64 30, .int .i64 60000]) (ok := fun _ => True) (okp := fun _ => True) ?hr ?hp (fun _ hk => hk) trivial (Below.refl _ _) (Nat.le_refl _) (by simp) ?_; (case hd => rfl); (case hg => rfl); (case hr => first | (go_simp; done) | (go_simp; rfl)); (case hp => exact (Reps.one (show Kd.M (Kd.int .i64) _ _ _ 0 [.int .i64 0] from rfl) (Reps.one (show Kd.M (Kd.int .i64) _ _ _ 1 [.int .i64 1] from rfl) (Reps.one (show Kd.M (Kd.int .i64) _ _ _ 2 [.int .i64 2] from rfl) (Reps.one (show Kd.M (Kd.int .i64) _ _ _ 30 [.int .i64 30] from rfl) (Reps.one (show Kd.M (Kd.int .i64) _ _ _ 60000 [.int .i64 60000] from rfl) (Reps.none _ _)))))))
           intro v143 w34 ho35 hb hg_ hnew_
           clear hg_ hnew_
           (first | rw [← Ny142.out] at ho35 | (simp only [Int.reduceToNat] at ho35; rw [← Ny142.out] at ho35))
           have n0_ := qM (Kd.R_elder' (by (with_reducible repeat (first | apply qA | apply qN | apply qD)); exact HO_138000.out) (Kd.R_base ho35) hb)
           have n1_ := qM (Kd.R_elder' (by (with_reducible repeat (first | apply qA | apply qN | apply qD)); exact HO_138001.out) (Kd.R_base ho35) hb)
           have n2_ := qM (Kd.R_lower (Kd.R_new' (Kd.R_new' ho35 (Kd.R_lt (by (with_reducible repeat (first | apply qA | apply qN | apply qD)); exact HO_138000.out))) (Kd.R_lt (by (with_reducible repeat (first | apply qA | apply qN | apply qD)); exact HO_138001.out))) (keep_size (w := w) (g := g) (row := none) (by repeat (first | (with_reducible first | exact HK.out | apply KeepBut.set_ | apply keep_drewN | apply keep_drew | apply keep_alloc | refine keep_far ?_ GW128.out _ | refine keep_far ?_ GW137.out _) | exact HK.out))))
           have n3_ := qM (blk_below (g := gb128) (o := .cells #[.slice none 0 0, .slice none 0 0] 37 (0, 0)) (by (with_reducible repeat (first | refine zN ?_ _ | refine zD ?_ | refine zA ?_ _)); exact BK128.out) hb)
           have n4_ := qM (blk_below (g := gb137) (o := .cells #[.slice (some ⟨go16, 0, none⟩) x138000_1.length co27, (.slice AqS x138001_1.length cqS)] 37 (0, 0)) (by (with_reducible repeat (first | refine zN ?_ _ | refine zD ?_ | refine zA ?_ _)); exact BK137.out) hb)
           have n5_ := qM (IsS93.below (by repeat (first | (with_reducible first | exact HI0.out | apply IsS93.alloc | apply IsS93.drewN | apply IsS93.drew | apply IsS93.set_1 | refine IsS93.far ?_ NB0_128.out _ | refine IsS93.far ?_ NB0_137.out _) | exact HI0.out)) hb)
           have n6_ := qM (KeepBut.trans (by repeat (first | (with_reducible first | exact HK.out | apply KeepBut.set_ | apply keep_drewN | apply keep_drew | apply keep_alloc | refine keep_far ?_ GW128.out _ | refine keep_far ?_ GW137.out _) | exact HK.out)) (KeepBut.of_below hb g none) (.inl rfl))
           have n7_ := qM (below_step (by repeat (first | (with_reducible first | exact HB.out | apply yA | apply yN | apply yD | refine yS ?_ (IsS93.ge HI0.out) | refine yS ?_ GE128.out | refine yS ?_ GE137.out) | exact HB.out)) hb)
           clear HO_138000
           clear HO_138001
           clear BK128
           clear BK137
           clear HI0
           clear HK
           clear HB
           have HO_138000 := n0_
           have HO_138001 := n1_
           have HO144 := n2_
           have BK128 := n3_
           have BK137 := n4_
           have HI0 := n5_
           have HK := n6_
           have HB := n7_
           clear n0_ n1_ n2_ n3_ n4_ n5_ n6_ n7_
           clear hb ho35
           obtain ⟨Ao36, co36, eo36⟩ := Kd.R_slice HO144.out
           subst eo36
           obtain ⟨ado36, fo36, _⟩ := Kd.at_int (qR HO144.out).2.2 0 (by decide) (by rw [Ny142.out]; simp)
           cases fo36
           refine hK.out _ _ ⟨(zC BK137.out 0).trans rfl, (zC BK137.out 1).trans rfl⟩ (fun hHeld => ?_)
           clear hK K
           refine norm_ (a' := ?_) ?_ ?_
           rotate_left
           ·show Act.put _ (some 32) _ = _
            simp only [Act.put, List.setIfInBounds_toArray, List.set_cons_zero, List.set_cons_succ, i64_w, i32_w]
            rfl
           refine one_ (i := 5) (N := some 34) #[true, true, true, true, true, true, false, false, false, false] rfl rfl (one_of HT_.out (by kernel_rfl)) (by decide) (fun K hK => ?_)
           refine goes_ Try.func53 (by kernel_rfl) rfl #[.pointer (some ⟨g, 0, none⟩), .int .i64 5] (by rfl) rfl rfl (by (try simp only [List.map_toArray, List.map_cons, List.map_nil]); first | done | rfl | (simp only [List.length_drop, List.length_take]; rfl)) ?_
           with_reducible refine (spec_l30Rd_pick.calls k1 g s0_0 t139 5 t145 t146 w0 _ ?side1 ?side2 A19.out).mono ?_
           (case side1 => repeat (first | (with_reducible first | exact HI0.out | apply IsS93.alloc | apply IsS93.drewN | apply IsS93.drew | apply IsS93.set_1 | refine IsS93.far ?_ NB0_128.out _ | refine IsS93.far ?_ NB0_137.out _) | exact HI0.out))
           (case side2 => repeat (first | (with_reducible first | exact HB.out | apply yA | apply yN | apply yD | refine yS ?_ (IsS93.ge HI0.out) | refine yS ?_ GE128.out | refine yS ?_ GE137.out) | exact HB.out))
           rintro e w37 ⟨rfl, hi, hb, hk⟩
           refine ⟨_, rfl, ?_⟩
           have n0_ := qM (Kd.R_mono (Kd.R_keep (IsS93.apart (show IsS93 w0 _ g s0_0 t139 from by repeat (first | (with_reducible first | exact HI0.out | apply IsS93.alloc | apply IsS93.drewN | apply IsS93.drew | apply IsS93.set_1 | refine IsS93.far ?_ NB0_128.out _ | refine IsS93.far ?_ NB0_137.out _) | exact HI0.out)) (by (with_reducible repeat (first | apply qA | apply qN | apply qD)); exact HO_138000.out) (by decide)) hk (fun _ h => h.2)) (fun _ h => h.1))
           have n1_ := qM (Kd.R_mono (Kd.R_keep (IsS93.apart (show IsS93 w0 _ g s0_0 t139 from by repeat (first | (with_reducible first | exact HI0.out | apply IsS93.alloc | apply IsS93.drewN | apply IsS93.drew | apply IsS93.set_1 | refine IsS93.far ?_ NB0_128.out _ | refine IsS93.far ?_ NB0_137.out _) | exact HI0.out)) (by (with_reducible repeat (first | apply qA | apply qN | apply qD)); exact HO_138001.out) (by decide)) hk (fun _ h => h.2)) (fun _ h => h.1))
           have n2_ := qM (KeepBut.blk hk (g' := gb128) (o := .cells #[.slice none 0 0, .slice none 0 0] 37 (0, 0)) (by (with_reducible repeat (first | refine zN ?_ _ | refine zD ?_ | refine zA ?_ _)); exact BK128.out) NB128_0.out (by simp))
           have n3_ := qM (KeepBut.blk hk (g' := gb137) (o := .cells #[.slice (some ⟨go16, 0, none⟩) x138000_1.length co27, (.slice AqS x138001_1.length cqS)] 37 (0, 0)) (by (with_reducible repeat (first | refine zN ?_ _ | refine zD ?_ | refine zA ?_ _)); exact BK137.out) NB137_0.out (by simp))
           have n4_ := qM (Kd.R_mono (Kd.R_keep (IsS93.apart (show IsS93 w0 _ g s0_0 t139 from by repeat (first | (with_reducible first | exact HI0.out | apply IsS93.alloc | apply IsS93.drewN | apply IsS93.drew | apply IsS93.set_1 | refine IsS93.far ?_ NB0_128.out _ | refine IsS93.far ?_ NB0_137.out _) | exact HI0.out)) (by (with_reducible repeat (first | apply qA | apply qN | apply qD)); exact HO144.out) (by decide)) hk (fun _ h => h.2)) (fun _ h => h.1))
           have n5_ := qM (KeepBut.trans (by repeat (first | (with_reducible first | exact HK.out | apply KeepBut.set_ | apply keep_drewN | apply keep_drew | apply keep_alloc | refine keep_far ?_ GW128.out _ | refine keep_far ?_ GW137.out _) | exact HK.out)) hk (.inl rfl))
           have n6_ := qM (hb)
           have n7_ := qM (hi)
           clear HO_138000
           clear HO_138001
           clear BK128
           clear BK137
           clear HO144
           clear HK
           clear HB
           clear HI0
           have HO_138000 := n0_
           have HO_138001 := n1_
           have BK128 := n2_
           have BK137 := n3_
           have HO144 := n4_
           have HK := n5_
           have HB := n6_
           have HI0 := n7_
           clear n0_ n1_ n2_ n3_ n4_ n5_ n6_ n7_
           (try clear hb)
           (try clear hb2)
           (try clear hk)
           (try clear hi)
           refine hK.out _ _ ⟨(zC BK137.out 0).trans rfl, (zC BK137.out 1).trans rfl⟩ (fun hHeld => ?_)
           clear hK K
           refine norm_ (a' := ?_) ?_ ?_
           rotate_left
           ·show Act.put _ (some 34) _ = _
            simp only [Act.put, List.setIfInBounds_toArray, List.set_cons_zero, List.set_cons_succ, i64_w, i32_w]
            rfl
           exact norm_ (by simp only [putAll, Act.put, List.setIfInBounds_toArray, List.set_cons_zero, List.set_cons_succ]) (hCont (.slice (some ado36) y142.length co36, ado36) _ ⟨hHeld, (by (with_reducible repeat (first | apply qA | apply qN | apply qD)); exact Kd.R_mono HO144.out (fun _ hk => ⟨hk.1.2, hk.2⟩)), (by (with_reducible repeat (first | apply qA | apply qN | apply qD)); exact Kd.R_mono HO_138000.out (fun _ hk => ⟨hk.2, hk.1⟩)), (by (with_reducible repeat (first | apply qA | apply qN | apply qD)); exact Kd.R_mono HO_138001.out (fun _ hk => ⟨hk.2, hk.1⟩)), ⟨_, rfl⟩, (by (with_reducible repeat (first | refine zN ?_ _ | refine zD ?_ | refine zA ?_ _)); exact BK128.out), (by (with_reducible repeat (first | refine zN ?_ _ | refine zD ?_ | refine zA ?_ _)); exact BK137.out), (by repeat (first | (with_reducible first | exact HI0.out | apply IsS93.alloc | apply IsS93.drewN | apply IsS93.drew | apply IsS93.set_1 | refine IsS93.far ?_ NB0_128.out _ | refine IsS93.far ?_ NB0_137.out _) | exact HI0.out)), (by repeat (first | (with_reducible first | exact HK.out | apply KeepBut.set_ | apply keep_drewN | apply keep_drew | apply keep_alloc | refine keep_far ?_ GW128.out _ | refine keep_far ?_ GW137.out _) | exact HK.out)), (by repeat (first | (with_reducible first | exact HB.out | apply yA | apply yN | apply yD | refine yS ?_ (IsS93.ge HI0.out) | refine yS ?_ GE128.out | refine yS ?_ GE137.out) | exact HB.out))⟩)
          ·skip
           refine goes_ Try.func53 (by kernel_rfl) rfl #[.pointer (some ⟨g, 0, none⟩), .int .i64 5] (by rfl) rfl rfl (by (try simp only [List.map_toArray, List.map_cons, List.map_nil]); first | done | rfl | (simp only [List.length_drop, List.length_take]; rfl)) ?_
           with_reducible refine (spec_l30Rd_pick.calls k1 g s0_0 t139 5 t145 t146 w0 _ ?side1 ?side2 A19.out).mono ?_
           (case side1 => repeat (first | (with_reducible first | exact HI0.out | apply IsS93.alloc | apply IsS93.drewN | apply IsS93.drew | apply IsS93.set_1 | refine IsS93.far ?_ NB0_128.out _ | refine IsS93.far ?_ NB0_137.out _) | exact HI0.out))
           (case side2 => repeat (first | (with_reducible first | exact HB.out | apply yA | apply yN | apply yD | refine yS ?_ (IsS93.ge HI0.out) | refine yS ?_ GE128.out | refine yS ?_ GE137.out) | exact HB.out))
           rintro e w34 ⟨rfl, hi, hb, hk⟩
           refine ⟨_, rfl, ?_⟩
           have n0_ := qM (Kd.R_mono (Kd.R_keep (IsS93.apart (show IsS93 w0 _ g s0_0 t139 from by repeat (first | (with_reducible first | exact HI0.out | apply IsS93.alloc | apply IsS93.drewN | apply IsS93.drew | apply IsS93.set_1 | refine IsS93.far ?_ NB0_128.out _ | refine IsS93.far ?_ NB0_137.out _) | exact HI0.out)) (by (with_reducible repeat (first | apply qA | apply qN | apply qD)); exact HO_138000.out) (by decide)) hk (fun _ h => h.2)) (fun _ h => h.1))
           have n1_ := qM (Kd.R_mono (Kd.R_keep (IsS93.apart (show IsS93 w0 _ g s0_0 t139 from by repeat (first | (with_reducible first | exact HI0.out | apply IsS93.alloc | apply IsS93.drewN | apply IsS93.drew | apply IsS93.set_1 | refine IsS93.far ?_ NB0_128.out _ | refine IsS93.far ?_ NB0_137.out _) | exact HI0.out)) (by (with_reducible repeat (first | apply qA | apply qN | apply qD)); exact HO_138001.out) (by decide)) hk (fun _ h => h.2)) (fun _ h => h.1))
           have n2_ := qM (KeepBut.blk hk (g' := gb128) (o := .cells #[.slice none 0 0, .slice none 0 0] 37 (0, 0)) (by (with_reducible repeat (first | refine zN ?_ _ | refine zD ?_ | refine zA ?_ _)); exact BK128.out) NB128_0.out (by simp))
           have n3_ := qM (KeepBut.blk hk (g' := gb137) (o := .cells #[.slice (some ⟨go16, 0, none⟩) x138000_1.length co27, (.slice AqS x138001_1.length cqS)] 37 (0, 0)) (by (with_reducible repeat (first | refine zN ?_ _ | refine zD ?_ | refine zA ?_ _)); exact BK137.out) NB137_0.out (by simp))
           have n4_ := qM (KeepBut.trans (by repeat (first | (with_reducible first | exact HK.out | apply KeepBut.set_ | apply keep_drewN | apply keep_drew | apply keep_alloc | refine keep_far ?_ GW128.out _ | refine keep_far ?_ GW137.out _) | exact HK.out)) hk (.inl rfl))
           have n5_ := qM (hb)
           have n6_ := qM (hi)
           clear HO_138000
           clear HO_138001
           clear BK128
           clear BK137
           clear HK
           clear HB
           clear HI0
           have HO_138000 := n0_
           have HO_138001 := n1_
           have BK128 := n2_
           have BK137 := n3_
           have HK := n4_
           have HB := n5_
           have HI0 := n6_
           clear n0_ n1_ n2_ n3_ n4_ n5_ n6_
           (try clear hb)
           (try clear hb2)
           (try clear hk)
           (try clear hi)
           refine hK.out _ _ ⟨(zC BK137.out 0).trans rfl, (zC BK137.out 1).trans rfl⟩ (fun hHeld => ?_)
           clear hK K
           refine norm_ (a' := ?_) ?_ ?_
           rotate_left
           ·show Act.put _ (some 34) _ = _
            simp only [Act.put, List.setIfInBounds_toArray, List.set_cons_zero, List.set_cons_succ, i64_w, i32_w]
            rfl
           refine one_ (i := 3) (N := some 32) #[true, true, true, true, true, true, false, false, false, false] rfl rfl (one_of HT_.out (by kernel_rfl)) (by decide) (fun K hK => ?_)
           refine Kd.R_lit_step (Kd.int .i64) _ 3 ?hg (N := 32) ?hd (xs := ([0, 1, 2, 30, 60000] : List Int)) (inner := [.int .i64 0, .int .i64 1, .int .i64 2, .int .i64 30, .int .i64 60000]) (ok := fun _ => True) (okp := fun _ => True) ?hr ?hp (fun _ hk => hk) trivial (Below.refl _ _) (Nat.le_refl _) (by simp) ?_; (case hd => rfl); (case hg => rfl); (case hr => first | (go_simp; done) | (go_simp; rfl)); (case hp => exact (Reps.one (show Kd.M (Kd.int .i64) _ _ _ 0 [.int .i64 0] from rfl) (Reps.one (show Kd.M (Kd.int .i64) _ _ _ 1 [.int .i64 1] from rfl) (Reps.one (show Kd.M (Kd.int .i64) _ _ _ 2 [.int .i64 2] from rfl) (Reps.one (show Kd.M (Kd.int .i64) _ _ _ 30 [.int .i64 30] from rfl) (Reps.one (show Kd.M (Kd.int .i64) _ _ _ 60000 [.int .i64 60000] from rfl) (Reps.none _ _)))))))
           intro v143 w35 ho36 hb hg_ hnew_
           clear hg_ hnew_
           (first | rw [← Ny142.out] at ho36 | (simp only [Int.reduceToNat] at ho36; rw [← Ny142.out] at ho36))
           have n0_ := qM (Kd.R_elder' (by (with_reducible repeat (first | apply qA | apply qN | apply qD)); exact HO_138000.out) (Kd.R_base ho36) hb)
           have n1_ := qM (Kd.R_elder' (by (with_reducible repeat (first | apply qA | apply qN | apply qD)); exact HO_138001.out) (Kd.R_base ho36) hb)
           have n2_ := qM (Kd.R_lower (Kd.R_new' (Kd.R_new' ho36 (Kd.R_lt (by (with_reducible repeat (first | apply qA | apply qN | apply qD)); exact HO_138000.out))) (Kd.R_lt (by (with_reducible repeat (first | apply qA | apply qN | apply qD)); exact HO_138001.out))) (keep_size (w := w) (g := g) (row := none) (by repeat (first | (with_reducible first | exact HK.out | apply KeepBut.set_ | apply keep_drewN | apply keep_drew | apply keep_alloc | refine keep_far ?_ GW128.out _ | refine keep_far ?_ GW137.out _) | exact HK.out))))
           have n3_ := qM (blk_below (g := gb128) (o := .cells #[.slice none 0 0, .slice none 0 0] 37 (0, 0)) (by (with_reducible repeat (first | refine zN ?_ _ | refine zD ?_ | refine zA ?_ _)); exact BK128.out) hb)
           have n4_ := qM (blk_below (g := gb137) (o := .cells #[.slice (some ⟨go16, 0, none⟩) x138000_1.length co27, (.slice AqS x138001_1.length cqS)] 37 (0, 0)) (by (with_reducible repeat (first | refine zN ?_ _ | refine zD ?_ | refine zA ?_ _)); exact BK137.out) hb)
           have n5_ := qM (IsS93.below (by repeat (first | (with_reducible first | exact HI0.out | apply IsS93.alloc | apply IsS93.drewN | apply IsS93.drew | apply IsS93.set_1 | refine IsS93.far ?_ NB0_128.out _ | refine IsS93.far ?_ NB0_137.out _) | exact HI0.out)) hb)
           have n6_ := qM (KeepBut.trans (by repeat (first | (with_reducible first | exact HK.out | apply KeepBut.set_ | apply keep_drewN | apply keep_drew | apply keep_alloc | refine keep_far ?_ GW128.out _ | refine keep_far ?_ GW137.out _) | exact HK.out)) (KeepBut.of_below hb g none) (.inl rfl))
           have n7_ := qM (below_step (by repeat (first | (with_reducible first | exact HB.out | apply yA | apply yN | apply yD | refine yS ?_ (IsS93.ge HI0.out) | refine yS ?_ GE128.out | refine yS ?_ GE137.out) | exact HB.out)) hb)
           clear HO_138000
           clear HO_138001
           clear BK128
           clear BK137
           clear HI0
           clear HK
           clear HB
           have HO_138000 := n0_
           have HO_138001 := n1_
           have HO144 := n2_
           have BK128 := n3_
           have BK137 := n4_
           have HI0 := n5_
           have HK := n6_
           have HB := n7_
           clear n0_ n1_ n2_ n3_ n4_ n5_ n6_ n7_
           clear hb ho36
           obtain ⟨Ao37, co37, eo37⟩ := Kd.R_slice HO144.out
           subst eo37
           obtain ⟨ado37, fo37, _⟩ := Kd.at_int (qR HO144.out).2.2 0 (by decide) (by rw [Ny142.out]; simp)
           cases fo37
           refine hK.out _ _ ⟨(zC BK137.out 0).trans rfl, (zC BK137.out 1).trans rfl⟩ (fun hHeld => ?_)
           clear hK K
           refine norm_ (a' := ?_) ?_ ?_
           rotate_left
           ·show Act.put _ (some 32) _ = _
            simp only [Act.put, List.setIfInBounds_toArray, List.set_cons_zero, List.set_cons_succ, i64_w, i32_w]
            rfl
           exact norm_ (by simp only [putAll, Act.put, List.setIfInBounds_toArray, List.set_cons_zero, List.set_cons_succ]) (hCont (.slice (some ado37) y142.length co37, ado37) _ ⟨hHeld, (by (with_reducible repeat (first | apply qA | apply qN | apply qD)); exact Kd.R_mono HO144.out (fun _ hk => ⟨hk.1.2, hk.2⟩)), (by (with_reducible repeat (first | apply qA | apply qN | apply qD)); exact Kd.R_mono HO_138000.out (fun _ hk => ⟨hk.2, hk.1⟩)), (by (with_reducible repeat (first | apply qA | apply qN | apply qD)); exact Kd.R_mono HO_138001.out (fun _ hk => ⟨hk.2, hk.1⟩)), ⟨_, rfl⟩, (by (with_reducible repeat (first | refine zN ?_ _ | refine zD ?_ | refine zA ?_ _)); exact BK128.out), (by (with_reducible repeat (first | refine zN ?_ _ | refine zD ?_ | refine zA ?_ _)); exact BK137.out), (by repeat (first | (with_reducible first | exact HI0.out | apply IsS93.alloc | apply IsS93.drewN | apply IsS93.drew | apply IsS93.set_1 | refine IsS93.far ?_ NB0_128.out _ | refine IsS93.far ?_ NB0_137.out _) | exact HI0.out)), (by repeat (first | (with_reducible first | exact HK.out | apply KeepBut.set_ | apply keep_drewN | apply keep_drew | apply keep_alloc | refine keep_far ?_ GW128.out _ | refine keep_far ?_ GW137.out _) | exact HK.out)), (by repeat (first | (with_reducible first | exact HB.out | apply yA | apply yN | apply yD | refine yS ?_ (IsS93.ge HI0.out) | refine yS ?_ GE128.out | refine yS ?_ GE137.out) | exact HB.out))⟩)
         rintro ⟨v143, adz_v143⟩ w38 ⟨hS_, h0_, h1_, h2_, h3_, h4_, h5_, h6_, h7_, h8_⟩
         have n0_ : Aside0 (Kd.R (Kd.int .i64) 3 w38 w.heap.size (fun k_ => some k_ ≠ (.slice (some ⟨go16, 0, none⟩) x138000_1.length co27 : Value).ownBlock ∧ some k_ ≠ ((.slice AqS x138001_1.length cqS) : Value).ownBlock) v143 y142) := ⟨h0_⟩
         have n1_ : Aside0 (Kd.R (Kd.int .i64) 3 w38 w.heap.size (fun k_ => some k_ ≠ (v143 : Value).ownBlock ∧ some k_ ≠ ((.slice AqS x138001_1.length cqS) : Value).ownBlock) (.slice (some ⟨go16, 0, none⟩) x138000_1.length co27) y140) := ⟨h1_⟩
         have n2_ : Aside0 (Kd.R (Kd.int .i64) 3 w38 w.heap.size (fun k_ => some k_ ≠ (v143 : Value).ownBlock ∧ some k_ ≠ (.slice (some ⟨go16, 0, none⟩) x138000_1.length co27 : Value).ownBlock) (.slice AqS x138001_1.length cqS) x138001_1) := ⟨h2_⟩
         have n3_ : Aside0 (∃ c_, (v143 : Value) = .slice (some adz_v143) y142.length c_) := ⟨h3_⟩
         have n4_ : Aside0 (w38.heap[gb128]? = some (.cells #[.slice none 0 0, .slice none 0 0] 37 (0, 0))) := ⟨h4_⟩
         have n5_ : Aside0 (w38.heap[gb137]? = some (.cells #[.slice (some ⟨go16, 0, none⟩) x138000_1.length co27, (.slice AqS x138001_1.length cqS)] 37 (0, 0))) := ⟨h5_⟩
         have n6_ : Aside0 (IsS93 w0 w38 g s0_0 t146) := ⟨h6_⟩
         have n7_ : Aside0 (KeepBut w w38 g none) := ⟨h7_⟩
         have n8_ : Aside0 (Below w0.heap.size w0 w38) := ⟨h8_⟩
         clear HO_138000
         clear HO_138001
         clear BK128
         clear BK137
         clear HI0
         clear HK
         clear HB
         clear h0_ h1_ h2_ h3_ h4_ h5_ h6_ h7_ h8_
         have HO144 := n0_
         have HO_138000 := n1_
         have HO_138001 := n2_
         have HA_HO144 := n3_
         have BK128 := n4_
         have BK137 := n5_
         have HI0 := n6_
         have HK := n7_
         have HB := n8_
         clear n0_ n1_ n2_ n3_ n4_ n5_ n6_ n7_ n8_
         have hHeld : w38.cell? ⟨gb137, 0, none⟩ = some (.slice (some ⟨go16, 0, none⟩) x138000_1.length co27) ∧ w38.cell? ⟨gb137, 1, none⟩ = some ((.slice AqS x138001_1.length cqS)) := hS_
         obtain ⟨co39, eo39⟩ := HA_HO144.out
         clear HA_HO144
         subst eo39
         have p23 : 0 ≤ (x4_1 : Int) := of_decide_eq_true (by first | (with_reducible assumption) | assumption)
         have q23 : (x4_1 : Int) < ((x138001_1.length : Int) : Int) := of_decide_eq_true (by first | (with_reducible assumption) | assumption)
         obtain ⟨go23, co23, eo23, gb23, gl23, cl23, HG23⟩ := Kd.R_form HO_138001.out (by omega)
         (first | cases eo23 | (injection eo23 with ea_ en_ ec_; (first | subst ea_ | (injection ea_ with ea_; subst ea_)); subst ec_; clear en_))
         have GB23 := qM gb23
         have GG23 := qM HG23
         clear gb23 gl23 HG23
         obtain ⟨hx23_0, hf23_0⟩ := Kd.R_celln 0 HO_138001.out (x4_1 : Int) p23 q23
         replace p23 := eq_true p23
         replace q23 := eq_true q23
         have HN0_go23 := qM (show g ≠ go23 from by have h_ := IsS93.own_ne HI0.out HO_138001.out (by decide); intro e_; exact h_ (by rw [e_]; rfl))
         have HP40 := Kd.R_putn HO_138001.out (x4_1 : Int) (rd y142 t145)
         rw [← Ny148.out] at HP40
         have HQ40 := qM HP40
         clear HP40
         refine norm_ (a' := ?_) ?_ ?_
         rotate_left
         ·simp only [putAll, Act.put, List.setIfInBounds_toArray, List.set_cons_zero, List.set_cons_succ]
          rfl
         refine pure_ (i := 6) (N := some 35) (v := ?_) (a' := ?_) #[true, true, true, true, true, true, true, false, false, false] rfl rfl (any_of HT_.out (by kernel_rfl)) (fun _ _ _ h => h) (Or.inl ⟨by rfl, ?_⟩) ?_ ?_
         rotate_left
         ·intro w'
          go_simp
          with_reducible rfl
         rotate_left
         ·simp only [Act.put, List.setIfInBounds_toArray, List.set_cons_zero, List.set_cons_succ, i64_w, i32_w]
          rfl
         refine one_ (i := 7) (N := some 36) #[true, true, true, true, true, true, true, true, false, false] rfl rfl (one_of HT_.out (by kernel_rfl)) (by decide) (fun K hK => ?_)
         (have p147 : 0 ≤ (t145 : Int) := of_decide_eq_true (by first | (with_reducible assumption) | assumption); have q147 : t145 < (y142.length : Int) := of_decide_eq_true (by first | (with_reducible assumption) | assumption); obtain ⟨ad147, e147, hx147_0⟩ := Kd.at_int (qR HO144.out).2.2 t145 p147 q147; obtain rfl : adz_v143 = ad147 := (by injection e147))
         refine value_ (w1 := ?_) (v := ?_) (by rfl) rfl ?_ ?_
         rotate_left 2
         ·go_simp
          constructor
          ·rfl
          ·rfl
         clear hx147_0
         refine hK.out _ _ ⟨(zC BK137.out 0).trans rfl, (zC BK137.out 1).trans rfl⟩ (fun hHeld => ?_)
         clear hK K
         refine norm_ (a' := ?_) ?_ ?_
         rotate_left
         ·show Act.put _ (some 36) _ = _
          simp only [Act.put, List.setIfInBounds_toArray, List.set_cons_zero, List.set_cons_succ, i64_w, i32_w]
          rfl
         refine pure_ (i := 8) (N := some 37) (v := ?_) (a' := ?_) #[true, true, true, true, true, true, true, true, true, false] rfl rfl (any_of HT_.out (by kernel_rfl)) (fun _ _ _ h => h) (Or.inl ⟨by rfl, ?_⟩) ?_ ?_
         rotate_left
         ·intro w'
          go_simp
          with_reducible rfl
         rotate_left
         ·simp only [Act.put, List.setIfInBounds_toArray, List.set_cons_zero, List.set_cons_succ, i64_w, i32_w]
          rfl
         refine last_ (i := 9) (N := none) #[true, true, true, true, true, true, true, true, true, true] rfl rfl (one_of HT_.out (by kernel_rfl)) (by decide) (fun K hK => ?_)
         refine skip_ (w1 := ?_) (by rfl) rfl ?_ ?_
         rotate_left
         ·go_simp
          rfl
         refine hK.out _ _ ?_
         clear hK K
         refine done_ (done_of HT_.out (by kernel_rfl)) ?_
         try go_wp2
         go_roundg k1
         case measure => have := HK1.out; omega
         case rel => exact ⟨(wrap64 (x4_1 + 1)), (t146), (y140), (y148), (.slice (some ⟨go16, 0, none⟩) x138000_1.length co27), (.slice (some ⟨go23, 0, none⟩) x138001_1.length cqS), (by first | rfl | (simp; done) | (simp [*]; done)), H', ⟨by have := HK1.out; omega⟩, ⟨by (with_reducible repeat (first | apply qA | apply qN | apply qD)); exact Kd.R_mono (qF (p := ⟨go23, (x4_1 : Int).toNat, none⟩) (Kd.R_mono HO_138000.out (fun k_ hk => (⟨hk, fun e_ => hk.2 (by rw [e_]; rfl)⟩ : _ ∧ k_ ≠ go23))) (fun _ hk => hk.2) (.int .i64 (rd y142 t145))) (fun _ hk => hk.1.2)⟩, ⟨by (with_reducible repeat (first | apply qA | apply qN | apply qD)); exact Kd.R_mono HQ40.out (fun _ hk => hk.2)⟩, ⟨by (with_reducible repeat (first | refine zN ?_ _ | refine zD ?_ | refine zA ?_ _)); refine blk_far ?_ (by have h_ := Kd.R_ne HO_138001.out BK128.out (by decide); intro e_; exact h_ (by rw [e_]; rfl)) _; (with_reducible repeat (first | refine zN ?_ _ | refine zD ?_ | refine zA ?_ _)); exact BK128.out⟩, ⟨by (with_reducible repeat (first | refine zN ?_ _ | refine zD ?_ | refine zA ?_ _)); refine blk_far ?_ (by have h_ := Kd.R_ne HO_138001.out BK137.out (by decide); intro e_; exact h_ (by rw [e_]; rfl)) _; (with_reducible repeat (first | refine zN ?_ _ | refine zD ?_ | refine zA ?_ _)); exact BK137.out⟩, ⟨by repeat (first | (with_reducible first | exact HI0.out | apply IsS93.alloc | apply IsS93.drewN | apply IsS93.drew | apply IsS93.set_1 | refine IsS93.far ?_ HN0_go23.out _ | refine IsS93.far ?_ NB0_128.out _ | refine IsS93.far ?_ NB0_137.out _) | exact HI0.out)⟩, ⟨by repeat (first | (with_reducible first | exact HK.out | apply KeepBut.set_ | apply keep_drewN | apply keep_drew | apply keep_alloc | refine keep_far ?_ GB23.out _ | refine keep_far ?_ GW128.out _ | refine keep_far ?_ GW137.out _) | exact HK.out)⟩, ⟨by repeat (first | (with_reducible first | exact HB.out | apply yA | apply yN | apply yD | refine yS ?_ (Nat.le_trans HL.out GB23.out) | refine yS ?_ (IsS93.ge HI0.out) | refine yS ?_ GE128.out | refine yS ?_ GE137.out) | exact HB.out)⟩⟩
        ·rw [if_neg c22] at H
         exact absurd H (by simp)
       ·rw [if_neg c21] at H
        exact absurd H (by simp)
      ·rw [if_neg c20] at H
       exact absurd H (by simp)
     ·rw [if_neg c18] at H
      have c18b0 : decide (0 < t138) = false := decide_eq_false c18
      clear c18
      have H' := qM H
      clear H
      have hnb41 := NB137_128.out
      have hnc41 := NB128_137.out
      have hnb42 := NB137_0.out
      have hnc42 := NB0_137.out
      have hcz43_0 : wr.cell? ⟨gb137, 0, none⟩ = some (u138000) := (zC BK137.out 0).trans rfl
      have hcz43_1 : wr.cell? ⟨gb137, 1, none⟩ = some ((.slice AqS x138001_1.length cqS)) := (zC BK137.out 1).trans rfl
      have hfz43_0 := zF BK137.out 0
      have hfz43_1 := zF BK137.out 1
      obtain ⟨Ao44, co44, eo44⟩ := Kd.R_slice HO_138000.out
      subst eo44
      try go_wp2
      have n0_ := qM (qD HO_138000.out)
      have n1_ := qM (qD HO_138001.out)
      have n2_ := qM (zD BK128.out)
      have n3_ := qM (zD BK137.out)
      have n4_ := qM (IsS93.drew HI0.out)
      have n5_ := qM (keep_drew HK.out)
      have n6_ := qM (yD HB.out)
      clear HO_138000
      clear HO_138001
      clear BK128
      clear BK137
      clear HI0
      clear HK
      clear HB
      have HO_138000 := n0_
      have HO_138001 := n1_
      have BK128 := n2_
      have BK137 := n3_
      have HI0 := n4_
      have HK := n5_
      have HB := n6_
      clear n0_ n1_ n2_ n3_ n4_ n5_ n6_
      refine start_ (n := 7) (S := fun w' => w'.cell? ⟨gb137, 0, none⟩ = some (.slice Ao44 x138000_1.length co44) ∧ w'.cell? ⟨gb137, 1, none⟩ = some ((.slice AqS x138001_1.length cqS))) (ds := [6]) #[false, false, false, false, false, false, false] (by kernel_rfl) rfl rfl ⟨(zC BK137.out 0).trans rfl, (zC BK137.out 1).trans rfl⟩ (fun hHeld => ?_)
      generalize wr.drew = w45 at HO_138000 HO_138001 BK128 BK137 HI0 HK HB hHeld ⊢
      refine pure_ (i := 0) (N := some 17) (v := ?_) (a' := ?_) #[true, false, false, false, false, false, false] rfl rfl (by kernel_rfl) (fun _ _ _ h => h) (Or.inl ⟨by rfl, ?_⟩) ?_ ?_
      rotate_left
      ·intro w'
       go_simp
       with_reducible rfl
      rotate_left
      ·simp only [Act.put, List.setIfInBounds_toArray, List.set_cons_zero, List.set_cons_succ, i64_w, i32_w]
       rfl
      refine pure_ (i := 2) (N := some 19) (v := ?_) (a' := ?_) #[true, false, true, false, false, false, false] rfl rfl (by kernel_rfl) (fun _ _ _ h => h) (Or.inl ⟨by rfl, ?_⟩) ?_ ?_
      rotate_left
      ·intro w'
       go_simp
       with_reducible rfl
      rotate_left
      ·simp only [Act.put, List.setIfInBounds_toArray, List.set_cons_zero, List.set_cons_succ, i64_w, i32_w]
       rfl
      refine pure_ (i := 3) (N := some 20) (v := ?_) (a' := ?_) #[true, false, true, true, false, false, false] rfl rfl (by kernel_rfl) (fun _ _ _ h => h) (Or.inl ⟨by rfl, ?_⟩) ?_ ?_
      rotate_left
      ·intro w'
       go_simp
       with_reducible rfl
      rotate_left
      ·simp only [Act.put, List.setIfInBounds_toArray, List.set_cons_zero, List.set_cons_succ, i64_w, i32_w]
       rfl
      refine take_ (i := 1) (N := some 18) (v := ?_) (a' := ?_) #[true, true, true, true, false, false, false] rfl rfl (by kernel_rfl) (fun _ _ _ h => h) (Or.inl ⟨by rfl, ?_⟩) hHeld ?_ ?_
      rotate_left
      ·rintro w' ⟨s0, s1⟩
       go_simp
       with_reducible rfl
      rotate_left
      ·simp only [Act.put, List.setIfInBounds_toArray, List.set_cons_zero, List.set_cons_succ, i64_w, i32_w]
       rfl
      refine one_ (i := 4) (N := some 21) #[true, true, true, true, true, false, false] rfl rfl (by kernel_rfl) (by decide) (fun K hK => ?_)
      refine goes_ Try.func53 (by kernel_rfl) rfl #[.pointer (some ⟨g, 0, none⟩), .int .i64 4] (by rfl) rfl rfl (by (try simp only [List.map_toArray, List.map_cons, List.map_nil]); first | done | rfl | (simp only [List.length_drop, List.length_take]; rfl)) ?_
      with_reducible refine (spec_l30Rd_pick.calls k1 g s0_0 x1001_1 4 t138 t139 w0 _ ?side1 ?side2 A14.out).mono ?_
      (case side1 => repeat (first | (with_reducible first | exact HI0.out | apply IsS93.alloc | apply IsS93.drewN | apply IsS93.drew | apply IsS93.set_1 | refine IsS93.far ?_ NB0_128.out _ | refine IsS93.far ?_ NB0_137.out _) | exact HI0.out))
      (case side2 => repeat (first | (with_reducible first | exact HB.out | apply yA | apply yN | apply yD | refine yS ?_ (IsS93.ge HI0.out) | refine yS ?_ GE128.out | refine yS ?_ GE137.out) | exact HB.out))
      rintro e w46 ⟨rfl, hi, hb, hk⟩
      refine ⟨_, rfl, ?_⟩
      have n0_ := qM (Kd.R_mono (Kd.R_keep (IsS93.apart (show IsS93 w0 _ g s0_0 x1001_1 from by repeat (first | (with_reducible first | exact HI0.out | apply IsS93.alloc | apply IsS93.drewN | apply IsS93.drew | apply IsS93.set_1 | refine IsS93.far ?_ NB0_128.out _ | refine IsS93.far ?_ NB0_137.out _) | exact HI0.out)) (by (with_reducible repeat (first | apply qA | apply qN | apply qD)); exact HO_138000.out) (by decide)) hk (fun _ h => h.2)) (fun _ h => h.1))
      have n1_ := qM (Kd.R_mono (Kd.R_keep (IsS93.apart (show IsS93 w0 _ g s0_0 x1001_1 from by repeat (first | (with_reducible first | exact HI0.out | apply IsS93.alloc | apply IsS93.drewN | apply IsS93.drew | apply IsS93.set_1 | refine IsS93.far ?_ NB0_128.out _ | refine IsS93.far ?_ NB0_137.out _) | exact HI0.out)) (by (with_reducible repeat (first | apply qA | apply qN | apply qD)); exact HO_138001.out) (by decide)) hk (fun _ h => h.2)) (fun _ h => h.1))
      have n2_ := qM (KeepBut.blk hk (g' := gb128) (o := .cells #[.slice none 0 0, .slice none 0 0] 37 (0, 0)) (by (with_reducible repeat (first | refine zN ?_ _ | refine zD ?_ | refine zA ?_ _)); exact BK128.out) NB128_0.out (by simp))
      have n3_ := qM (KeepBut.blk hk (g' := gb137) (o := .cells #[.slice Ao44 x138000_1.length co44, (.slice AqS x138001_1.length cqS)] 37 (0, 0)) (by (with_reducible repeat (first | refine zN ?_ _ | refine zD ?_ | refine zA ?_ _)); exact BK137.out) NB137_0.out (by simp))
      have n4_ := qM (KeepBut.trans (by repeat (first | (with_reducible first | exact HK.out | apply KeepBut.set_ | apply keep_drewN | apply keep_drew | apply keep_alloc | refine keep_far ?_ GW128.out _ | refine keep_far ?_ GW137.out _) | exact HK.out)) hk (.inl rfl))
      have n5_ := qM (hb)
      have n6_ := qM (hi)
      clear HO_138000
      clear HO_138001
      clear BK128
      clear BK137
      clear HK
      clear HB
      clear HI0
      have HO_138000 := n0_
      have HO_138001 := n1_
      have BK128 := n2_
      have BK137 := n3_
      have HK := n4_
      have HB := n5_
      have HI0 := n6_
      clear n0_ n1_ n2_ n3_ n4_ n5_ n6_
      (try clear hb)
      (try clear hb2)
      (try clear hk)
      (try clear hi)
      have p16 : 0 ≤ (x4_1 : Int) := of_decide_eq_true (by first | (with_reducible assumption) | assumption)
      have q16 : (x4_1 : Int) < ((x138000_1.length : Int) : Int) := of_decide_eq_true (by first | (with_reducible assumption) | assumption)
      obtain ⟨go16, co16, eo16, gb16, gl16, cl16, HG16⟩ := Kd.R_form HO_138000.out (by omega)
      (first | cases eo16 | (injection eo16 with ea_ en_ ec_; (first | subst ea_ | (injection ea_ with ea_; subst ea_)); subst ec_; clear en_))
      have GB16 := qM gb16
      have GG16 := qM HG16
      clear gb16 gl16 HG16
      obtain ⟨hx16_0, hf16_0⟩ := Kd.R_celln 0 HO_138000.out (x4_1 : Int) p16 q16
      replace p16 := eq_true p16
      replace q16 := eq_true q16
      have HN0_go16 := qM (show g ≠ go16 from by have h_ := IsS93.own_ne HI0.out HO_138000.out (by decide); intro e_; exact h_ (by rw [e_]; rfl))
      have HP47 := Kd.R_putn HO_138000.out (x4_1 : Int) t138
      rw [← Ny140.out] at HP47
      have HQ47 := qM HP47
      clear HP47
      refine hK.out _ _ ⟨(zC BK137.out 0).trans rfl, (zC BK137.out 1).trans rfl⟩ (fun hHeld => ?_)
      clear hK K
      refine norm_ (a' := ?_) ?_ ?_
      rotate_left
      ·show Act.put _ (some 21) _ = _
       simp only [Act.put, List.setIfInBounds_toArray, List.set_cons_zero, List.set_cons_succ, i64_w, i32_w]
       rfl
      refine pure_ (i := 5) (N := some 22) (v := ?_) (a' := ?_) #[true, true, true, true, true, true, false] rfl rfl (by kernel_rfl) (fun _ _ _ h => h) (Or.inl ⟨by rfl, ?_⟩) ?_ ?_
      rotate_left
      ·intro w'
       go_simp
       with_reducible rfl
      rotate_left
      ·simp only [Act.put, List.setIfInBounds_toArray, List.set_cons_zero, List.set_cons_succ, i64_w, i32_w]
       rfl
      refine last_ (i := 6) (N := none) #[true, true, true, true, true, true, true] rfl rfl (by kernel_rfl) (by decide) (fun K hK => ?_)
      refine skip_ (w1 := ?_) (by rfl) rfl ?_ ?_
      rotate_left
      ·go_simp
       rfl
      refine hK.out _ _ ?_
      clear hK K
      refine done_ (by kernel_rfl) ?_
      have hcz48_0 : w46.cell? ⟨gb137, 0, none⟩ = some (.slice (some ⟨go16, 0, none⟩) x138000_1.length co44) := (zC BK137.out 0).trans rfl
      have hcz48_1 : w46.cell? ⟨gb137, 1, none⟩ = some ((.slice AqS x138001_1.length cqS)) := (zC BK137.out 1).trans rfl
      have hfz48_0 := zF BK137.out 0
      have hfz48_1 := zF BK137.out 1
      have p17 : 0 ≤ (x4_1 : Int) := of_decide_eq_true (by first | (with_reducible assumption) | assumption)
      have q17 : (x4_1 : Int) < ((x138000_1.length : Int) : Int) := of_decide_eq_true (by first | (with_reducible assumption) | assumption)
      replace p17 := eq_true p17
      replace q17 := eq_true q17
      have hnz_ : go16 ≠ gb137 := by have h_ := Kd.R_ne HO_138000.out BK137.out (by decide); intro e_; exact h_ (by rw [← e_]; rfl)
      have hzz_0 : (w46.setCell ⟨go16, (x4_1 : Int).toNat, none⟩ (.int .i64 t138)).cell? ⟨gb137, 0, none⟩ = some (.slice (some ⟨go16, 0, none⟩) x138000_1.length co44) := (World.cell?_setCell_far _ _ _ _ hnz_).trans hcz48_0
      have hzz_1 : (w46.setCell ⟨go16, (x4_1 : Int).toNat, none⟩ (.int .i64 t138)).cell? ⟨gb137, 1, none⟩ = some ((.slice AqS x138001_1.length cqS)) := (World.cell?_setCell_far _ _ _ _ hnz_).trans hcz48_1
      try go_wp2
      go_roundg k1
      case measure => have := HK1.out; omega
      case rel => exact ⟨(wrap64 (x4_1 + 1)), (t139), (y140), (x138001_1), (.slice (some ⟨go16, 0, none⟩) x138000_1.length co44), ((.slice AqS x138001_1.length cqS)), (by first | rfl | (simp; done) | (simp [*]; done)), H', ⟨by have := HK1.out; omega⟩, ⟨by (with_reducible repeat (first | apply qA | apply qN | apply qD)); exact HQ47.out⟩, ⟨by (with_reducible repeat (first | apply qA | apply qN | apply qD)); exact Kd.R_mono (qF (p := ⟨go16, (x4_1 : Int).toNat, none⟩) (Kd.R_mono HO_138001.out (fun k_ hk => (⟨hk, fun e_ => hk (by rw [e_]; rfl)⟩ : _ ∧ k_ ≠ go16))) (fun _ hk => hk.2) (.int .i64 t138)) (fun _ hk => hk.1)⟩, ⟨by (with_reducible repeat (first | refine zN ?_ _ | refine zD ?_ | refine zA ?_ _)); refine blk_far ?_ (by have h_ := Kd.R_ne HO_138000.out BK128.out (by decide); intro e_; exact h_ (by rw [e_]; rfl)) _; (with_reducible repeat (first | refine zN ?_ _ | refine zD ?_ | refine zA ?_ _)); exact BK128.out⟩, ⟨by (with_reducible repeat (first | refine zN ?_ _ | refine zD ?_ | refine zA ?_ _)); refine blk_far ?_ (by have h_ := Kd.R_ne HO_138000.out BK137.out (by decide); intro e_; exact h_ (by rw [e_]; rfl)) _; (with_reducible repeat (first | refine zN ?_ _ | refine zD ?_ | refine zA ?_ _)); exact BK137.out⟩, ⟨by repeat (first | (with_reducible first | exact HI0.out | apply IsS93.alloc | apply IsS93.drewN | apply IsS93.drew | apply IsS93.set_1 | refine IsS93.far ?_ HN0_go16.out _ | refine IsS93.far ?_ NB0_128.out _ | refine IsS93.far ?_ NB0_137.out _) | exact HI0.out)⟩, ⟨by repeat (first | (with_reducible first | exact HK.out | apply KeepBut.set_ | apply keep_drewN | apply keep_drew | apply keep_alloc | refine keep_far ?_ GB16.out _ | refine keep_far ?_ GW128.out _ | refine keep_far ?_ GW137.out _) | exact HK.out)⟩, ⟨by repeat (first | (with_reducible first | exact HB.out | apply yA | apply yN | apply yD | refine yS ?_ (Nat.le_trans HL.out GB16.out) | refine yS ?_ (IsS93.ge HI0.out) | refine yS ?_ GE128.out | refine yS ?_ GE137.out) | exact HB.out)⟩⟩
    ·rw [if_neg c15] at H
     exact absurd H (by simp)
   ·rw [if_neg c13] at H
    have c13b0 : decide (x4_1 < (x138000_1.length : Int)) = false := decide_eq_false c13
    clear c13
    replace H := Option.bind_eq_some_iff.mp H
    obtain ⟨⟨t149, t150⟩, A490, H⟩ := H
    replace H : ((spec_l30Rd_pick.f k1 s0_0 t150 16).bind fun bt151 => (if bt151.1 = 0 then ((some (([(-1), 60000, 60001, 0] : List Int) : List Int)).bind fun y153 => ((spec_l30Rd_pick.f k1 s0_0 bt151.2 4).bind fun bt156 => (if 0 ≤ bt156.1 then (if bt156.1 < (y153.length : Int) then (if 0 ≤ t149 then (if t149 < (x138000_1.length : Int) then (some ((x138000_1.set (t149 : Int).toNat (rd y153 bt156.1)), x138001_1, bt156.2)) else (none)) else (none)) else (none)) else (none)))) else (if bt151.1 = 1 then ((some (([(-1), 60001, 5] : List Int) : List Int)).bind fun y160 => ((spec_l30Rd_pick.f k1 s0_0 bt151.2 3).bind fun bt163 => (if 0 ≤ bt163.1 then (if bt163.1 < (y160.length : Int) then (if 0 ≤ t149 then (if t149 < (x138001_1.length : Int) then (some (x138000_1, (x138001_1.set (t149 : Int).toNat (rd y160 bt163.1)), bt163.2)) else (none)) else (none)) else (none)) else (none)))) else (if bt151.1 = 2 then (if x138001_1.length < 17592186044416 then (some (x138000_1, (x138001_1 ++ [0]), bt151.2)) else (none)) else (if bt151.1 = 3 then (some ((([] : List Int)), x138001_1, bt151.2)) else (some (x138000_1, x138001_1, bt151.2))))))) = some (r1, r2, r3) := H
    have A49 := qM A490
    clear A490
    replace H := Option.bind_eq_some_iff.mp H
    obtain ⟨⟨t151, t152⟩, A500, H⟩ := H
    replace H : (if t151 = 0 then ((some (([(-1), 60000, 60001, 0] : List Int) : List Int)).bind fun y153 => ((spec_l30Rd_pick.f k1 s0_0 t152 4).bind fun bt156 => (if 0 ≤ bt156.1 then (if bt156.1 < (y153.length : Int) then (if 0 ≤ t149 then (if t149 < (x138000_1.length : Int) then (some ((x138000_1.set (t149 : Int).toNat (rd y153 bt156.1)), x138001_1, bt156.2)) else (none)) else (none)) else (none)) else (none)))) else (if t151 = 1 then ((some (([(-1), 60001, 5] : List Int) : List Int)).bind fun y160 => ((spec_l30Rd_pick.f k1 s0_0 t152 3).bind fun bt163 => (if 0 ≤ bt163.1 then (if bt163.1 < (y160.length : Int) then (if 0 ≤ t149 then (if t149 < (x138001_1.length : Int) then (some (x138000_1, (x138001_1.set (t149 : Int).toNat (rd y160 bt163.1)), bt163.2)) else (none)) else (none)) else (none)) else (none)))) else (if t151 = 2 then (if x138001_1.length < 17592186044416 then (some (x138000_1, (x138001_1 ++ [0]), t152)) else (none)) else (if t151 = 3 then (some ((([] : List Int)), x138001_1, t152)) else (some (x138000_1, x138001_1, t152)))))) = some (r1, r2, r3) := H
    have A50 := qM A500
    clear A500
    by_cases c51 : t151 = 0
    ·rw [if_pos c51] at H
     have c51b0 : (t151 == 0) = true := beq_iff_eq.mpr c51
     have c51b1 : (t151 != 0) = false := bne_eq_false_iff_eq.mpr c51
     clear c51
     obtain ⟨y153, hy153⟩ : ∃ y_ : List Int, y_ = (([(-1), 60000, 60001, 0] : List Int)) := ⟨_, rfl⟩
     replace H : ((spec_l30Rd_pick.f k1 s0_0 t152 4).bind fun bt156 => (if 0 ≤ bt156.1 then (if bt156.1 < (y153.length : Int) then (if 0 ≤ t149 then (if t149 < (x138000_1.length : Int) then (some ((x138000_1.set (t149 : Int).toNat (rd y153 bt156.1)), x138001_1, bt156.2)) else (none)) else (none)) else (none)) else (none))) = some (r1, r2, r3) := by first | (rw [hy153]; with_reducible exact H) | (have H2_ := (Option.bind_some _ _).symm.trans H; rw [hy153]; with_reducible exact H2_) | (have H2_ := (Option.bind_some _ _).symm.trans H; with_reducible exact H2_) | with_reducible exact H | (rw [hy153]; exact H) | exact H
     have Ny153 := qM hy153
     clear hy153
     replace H := Option.bind_eq_some_iff.mp H
     obtain ⟨⟨t156, t157⟩, A520, H⟩ := H
     replace H : (if 0 ≤ t156 then (if t156 < (y153.length : Int) then (if 0 ≤ t149 then (if t149 < (x138000_1.length : Int) then (some ((x138000_1.set (t149 : Int).toNat (rd y153 t156)), x138001_1, t157)) else (none)) else (none)) else (none)) else (none)) = some (r1, r2, r3) := H
     have A52 := qM A520
     clear A520
     by_cases c53 : 0 ≤ t156
     ·rw [if_pos c53] at H
      have c53b0 : decide (0 ≤ t156) = true := decide_eq_true c53
      clear c53
      by_cases c54 : t156 < (y153.length : Int)
      ·rw [if_pos c54] at H
       have c54b0 : decide (t156 < (y153.length : Int)) = true := decide_eq_true c54
       clear c54
       by_cases c55 : 0 ≤ t149
       ·rw [if_pos c55] at H
        have c55b0 : decide (0 ≤ t149) = true := decide_eq_true c55
        clear c55
        by_cases c56 : t149 < (x138000_1.length : Int)
        ·rw [if_pos c56] at H
         have c56b0 : decide (t149 < (x138000_1.length : Int)) = true := decide_eq_true c56
         clear c56
         obtain ⟨y159, hy159⟩ : ∃ y_ : List Int, y_ = (x138000_1.set (t149 : Int).toNat (rd y153 t156)) := ⟨_, rfl⟩
         replace H : (some (y159, x138001_1, t157)) = some (r1, r2, r3) := by first | (rw [hy159]; with_reducible exact H) | (have H2_ := (Option.bind_some _ _).symm.trans H; rw [hy159]; with_reducible exact H2_) | (have H2_ := (Option.bind_some _ _).symm.trans H; with_reducible exact H2_) | with_reducible exact H | (rw [hy159]; exact H) | exact H
         have Ny159 := qM hy159
         clear hy159
         simp only [Option.some.injEq, Prod.mk.injEq] at H
         obtain ⟨rfl, rfl, rfl⟩ := H
         have hnb58 := NB137_128.out
         have hnc58 := NB128_137.out
         have hnb59 := NB137_0.out
         have hnc59 := NB0_137.out
         have hcz60_0 : wr.cell? ⟨gb137, 0, none⟩ = some (u138000) := (zC BK137.out 0).trans rfl
         have hcz60_1 : wr.cell? ⟨gb137, 1, none⟩ = some ((.slice AqS x138001_1.length cqS)) := (zC BK137.out 1).trans rfl
         have hfz60_0 := zF BK137.out 0
         have hfz60_1 := zF BK137.out 1
         obtain ⟨Ao61, co61, eo61⟩ := Kd.R_slice HO_138000.out
         subst eo61
         try go_wp2_with (first | ((with_reducible refine gate_callee (f := 53) rfl ?_); refine goesL_ (some 42) rfl rfl Try.func53 (by kernel_rfl) rfl #[.pointer (some ⟨g, 0, none⟩), .int .i64 (x138000_1.length : Int)] rfl (by (try simp only [List.map_toArray, List.map_cons, List.map_nil]); first | done | rfl | (simp only [List.length_drop, List.length_take]; rfl)) ?_; (with_reducible refine (spec_l30Rd_pick.calls k1 g s0_0 x1001_1 (x138000_1.length : Int) t149 t150 w0 _ ?side1 ?side2 A49.out).mono ?_); (case side1 => repeat (first | (with_reducible first | exact HI0.out | apply IsS93.alloc | apply IsS93.drewN | apply IsS93.drew | apply IsS93.set_1 | refine IsS93.far ?_ NB0_128.out _ | refine IsS93.far ?_ NB0_137.out _) | exact HI0.out)); (case side2 => repeat (first | (with_reducible first | exact HB.out | apply yA | apply yN | apply yD | refine yS ?_ (IsS93.ge HI0.out) | refine yS ?_ GE128.out | refine yS ?_ GE137.out) | exact HB.out)); rintro e w62 ⟨rfl, hi, hb, hk⟩; refine ⟨_, rfl, ?_⟩; have n0_ := qM (Kd.R_mono (Kd.R_keep (IsS93.apart (show IsS93 w0 _ g s0_0 x1001_1 from by repeat (first | (with_reducible first | exact HI0.out | apply IsS93.alloc | apply IsS93.drewN | apply IsS93.drew | apply IsS93.set_1 | refine IsS93.far ?_ NB0_128.out _ | refine IsS93.far ?_ NB0_137.out _) | exact HI0.out)) (by (with_reducible repeat (first | apply qA | apply qN | apply qD)); exact HO_138000.out) (by decide)) hk (fun _ h => h.2)) (fun _ h => h.1)); have n1_ := qM (Kd.R_mono (Kd.R_keep (IsS93.apart (show IsS93 w0 _ g s0_0 x1001_1 from by repeat (first | (with_reducible first | exact HI0.out | apply IsS93.alloc | apply IsS93.drewN | apply IsS93.drew | apply IsS93.set_1 | refine IsS93.far ?_ NB0_128.out _ | refine IsS93.far ?_ NB0_137.out _) | exact HI0.out)) (by (with_reducible repeat (first | apply qA | apply qN | apply qD)); exact HO_138001.out) (by decide)) hk (fun _ h => h.2)) (fun _ h => h.1)); have n2_ := qM (KeepBut.blk hk (g' := gb128) (o := .cells #[.slice none 0 0, .slice none 0 0] 37 (0, 0)) (by (with_reducible repeat (first | refine zN ?_ _ | refine zD ?_ | refine zA ?_ _)); exact BK128.out) NB128_0.out (by simp)); have n3_ := qM (KeepBut.blk hk (g' := gb137) (o := .cells #[.slice Ao61 x138000_1.length co61, (.slice AqS x138001_1.length cqS)] 37 (0, 0)) (by (with_reducible repeat (first | refine zN ?_ _ | refine zD ?_ | refine zA ?_ _)); exact BK137.out) NB137_0.out (by simp)); have n4_ := qM (KeepBut.trans (by repeat (first | (with_reducible first | exact HK.out | apply KeepBut.set_ | apply keep_drewN | apply keep_drew | apply keep_alloc | refine keep_far ?_ GW128.out _ | refine keep_far ?_ GW137.out _) | exact HK.out)) hk (.inl rfl)); have n5_ := qM (hb); have n6_ := qM (hi); clear HO_138000; clear HO_138001; clear BK128; clear BK137; clear HK; clear HB; clear HI0; have HO_138000 := n0_; have HO_138001 := n1_; have BK128 := n2_; have BK137 := n3_; have HK := n4_; have HB := n5_; have HI0 := n6_; clear n0_ n1_ n2_ n3_ n4_ n5_ n6_; (try clear hb); (try clear hb2); (try clear hk); (try clear hi)) | ((with_reducible refine gate_callee (f := 53) rfl ?_); refine goesL_ (some 44) rfl rfl Try.func53 (by kernel_rfl) rfl #[.pointer (some ⟨g, 0, none⟩), .int .i64 16] rfl (by (try simp only [List.map_toArray, List.map_cons, List.map_nil]); first | done | rfl | (simp only [List.length_drop, List.length_take]; rfl)) ?_; (with_reducible refine (spec_l30Rd_pick.calls k1 g s0_0 t150 16 t151 t152 w0 _ ?side1 ?side2 A50.out).mono ?_); (case side1 => repeat (first | (with_reducible first | exact HI0.out | apply IsS93.alloc | apply IsS93.drewN | apply IsS93.drew | apply IsS93.set_1 | refine IsS93.far ?_ NB0_128.out _ | refine IsS93.far ?_ NB0_137.out _) | exact HI0.out)); (case side2 => repeat (first | (with_reducible first | exact HB.out | apply yA | apply yN | apply yD | refine yS ?_ (IsS93.ge HI0.out) | refine yS ?_ GE128.out | refine yS ?_ GE137.out) | exact HB.out)); rintro e w63 ⟨rfl, hi, hb, hk⟩; refine ⟨_, rfl, ?_⟩; have n0_ := qM (Kd.R_mono (Kd.R_keep (IsS93.apart (show IsS93 w0 _ g s0_0 t150 from by repeat (first | (with_reducible first | exact HI0.out | apply IsS93.alloc | apply IsS93.drewN | apply IsS93.drew | apply IsS93.set_1 | refine IsS93.far ?_ NB0_128.out _ | refine IsS93.far ?_ NB0_137.out _) | exact HI0.out)) (by (with_reducible repeat (first | apply qA | apply qN | apply qD)); exact HO_138000.out) (by decide)) hk (fun _ h => h.2)) (fun _ h => h.1)); have n1_ := qM (Kd.R_mono (Kd.R_keep (IsS93.apart (show IsS93 w0 _ g s0_0 t150 from by repeat (first | (with_reducible first | exact HI0.out | apply IsS93.alloc | apply IsS93.drewN | apply IsS93.drew | apply IsS93.set_1 | refine IsS93.far ?_ NB0_128.out _ | refine IsS93.far ?_ NB0_137.out _) | exact HI0.out)) (by (with_reducible repeat (first | apply qA | apply qN | apply qD)); exact HO_138001.out) (by decide)) hk (fun _ h => h.2)) (fun _ h => h.1)); have n2_ := qM (KeepBut.blk hk (g' := gb128) (o := .cells #[.slice none 0 0, .slice none 0 0] 37 (0, 0)) (by (with_reducible repeat (first | refine zN ?_ _ | refine zD ?_ | refine zA ?_ _)); exact BK128.out) NB128_0.out (by simp)); have n3_ := qM (KeepBut.blk hk (g' := gb137) (o := .cells #[.slice Ao61 x138000_1.length co61, (.slice AqS x138001_1.length cqS)] 37 (0, 0)) (by (with_reducible repeat (first | refine zN ?_ _ | refine zD ?_ | refine zA ?_ _)); exact BK137.out) NB137_0.out (by simp)); have n4_ := qM (KeepBut.trans (by repeat (first | (with_reducible first | exact HK.out | apply KeepBut.set_ | apply keep_drewN | apply keep_drew | apply keep_alloc | refine keep_far ?_ GW128.out _ | refine keep_far ?_ GW137.out _) | exact HK.out)) hk (.inl rfl)); have n5_ := qM (hb); have n6_ := qM (hi); clear HO_138000; clear HO_138001; clear BK128; clear BK137; clear HK; clear HB; clear HI0; have HO_138000 := n0_; have HO_138001 := n1_; have BK128 := n2_; have BK137 := n3_; have HK := n4_; have HB := n5_; have HI0 := n6_; clear n0_ n1_ n2_ n3_ n4_ n5_ n6_; (try clear hb); (try clear hb2); (try clear hk); (try clear hi)))
         have pi158 : (0 ≤ (t156 : Int)) = True := eq_true (of_decide_eq_true (by first | (with_reducible assumption) | assumption))
         have qi158 : (t156 < (y153.length : Int)) = True := eq_true (of_decide_eq_true (by first | (with_reducible assumption) | assumption))
         have n0_ := qM (qD HO_138000.out)
         have n1_ := qM (qD HO_138001.out)
         have n2_ := qM (zD BK128.out)
         have n3_ := qM (zD BK137.out)
         have n4_ := qM (IsS93.drew HI0.out)
         have n5_ := qM (keep_drew HK.out)
         have n6_ := qM (yD HB.out)
         clear HO_138000
         clear HO_138001
         clear BK128
         clear BK137
         clear HI0
         clear HK
         clear HB
         have HO_138000 := n0_
         have HO_138001 := n1_
         have BK128 := n2_
         have BK137 := n3_
         have HI0 := n4_
         have HK := n5_
         have HB := n6_
         clear n0_ n1_ n2_ n3_ n4_ n5_ n6_
         refine start_ (n := 10) (S := fun w' => w'.cell? ⟨gb137, 0, none⟩ = some (.slice Ao61 x138000_1.length co61) ∧ w'.cell? ⟨gb137, 1, none⟩ = some ((.slice AqS x138001_1.length cqS))) (ds := [9]) #[false, false, false, false, false, false, false, false, false, false] (by kernel_rfl) rfl rfl ⟨(zC BK137.out 0).trans rfl, (zC BK137.out 1).trans rfl⟩ (fun hHeld => ?_); refine with_tabW spec_l31Book.tab11 spec_l31Book.bits11 (fun HT_ HW_ => ?_)
         generalize w63.drew = w64 at HO_138000 HO_138001 BK128 BK137 HI0 HK HB hHeld ⊢
         refine pure_ (i := 0) (N := some 47) (v := ?_) (a' := ?_) #[true, false, false, false, false, false, false, false, false, false] rfl rfl (any_of HT_.out (by kernel_rfl)) (fun _ _ _ h => h) (Or.inl ⟨by rfl, ?_⟩) ?_ ?_
         rotate_left
         ·intro w'
          go_simp
          with_reducible rfl
         rotate_left
         ·simp only [Act.put, List.setIfInBounds_toArray, List.set_cons_zero, List.set_cons_succ, i64_w, i32_w]
          rfl
         refine pure_ (i := 2) (N := some 49) (v := ?_) (a' := ?_) #[true, false, true, false, false, false, false, false, false, false] rfl rfl (any_of HT_.out (by kernel_rfl)) (fun _ _ _ h => h) (Or.inl ⟨by rfl, ?_⟩) ?_ ?_
         rotate_left
         ·intro w'
          go_simp
          with_reducible rfl
         rotate_left
         ·simp only [Act.put, List.setIfInBounds_toArray, List.set_cons_zero, List.set_cons_succ, i64_w, i32_w]
          rfl
         refine pure_ (i := 4) (N := some 51) (v := ?_) (a' := ?_) #[true, false, true, false, true, false, false, false, false, false] rfl rfl (any_of HT_.out (by kernel_rfl)) (fun _ _ _ h => h) (Or.inl ⟨by rfl, ?_⟩) ?_ ?_
         rotate_left
         ·intro w'
          go_simp
          with_reducible rfl
         rotate_left
         ·simp only [Act.put, List.setIfInBounds_toArray, List.set_cons_zero, List.set_cons_succ, i64_w, i32_w]
          rfl
         refine take_ (i := 1) (N := some 48) (v := ?_) (a' := ?_) #[true, true, true, false, true, false, false, false, false, false] rfl rfl (take_ofW HT_.out HW_.out (by kernel_rfl)) (fun _ _ _ h => h) (Or.inl ⟨by rfl, ?_⟩) hHeld ?_ ?_
         rotate_left
         ·rintro w' ⟨s0, s1⟩
          go_simp
          with_reducible rfl
         rotate_left
         ·simp only [Act.put, List.setIfInBounds_toArray, List.set_cons_zero, List.set_cons_succ, i64_w, i32_w]
          rfl
         refine join_ (σ := Value × Addr) 4 #[true, true, true, true, true, true, false, false, false, false] (fun s_ => [(50, s_.1), (52, .int .i64 t156)]) (fun s_ w' => (w'.cell? ⟨gb137, 0, none⟩ = some (.slice Ao61 x138000_1.length co61) ∧ w'.cell? ⟨gb137, 1, none⟩ = some ((.slice AqS x138001_1.length cqS))) ∧ (Kd.R (Kd.int .i64) 3 w' w.heap.size (fun k_ => some k_ ≠ (.slice Ao61 x138000_1.length co61 : Value).ownBlock ∧ some k_ ≠ ((.slice AqS x138001_1.length cqS) : Value).ownBlock) s_.1 y153) ∧ (Kd.R (Kd.int .i64) 3 w' w.heap.size (fun k_ => some k_ ≠ (s_.1 : Value).ownBlock ∧ some k_ ≠ ((.slice AqS x138001_1.length cqS) : Value).ownBlock) (.slice Ao61 x138000_1.length co61) x138000_1) ∧ (Kd.R (Kd.int .i64) 3 w' w.heap.size (fun k_ => some k_ ≠ (s_.1 : Value).ownBlock ∧ some k_ ≠ (.slice Ao61 x138000_1.length co61 : Value).ownBlock) (.slice AqS x138001_1.length cqS) x138001_1) ∧ (∃ c_, (s_.1 : Value) = .slice (some s_.2) y153.length c_) ∧ (w'.heap[gb128]? = some (.cells #[.slice none 0 0, .slice none 0 0] 37 (0, 0))) ∧ (w'.heap[gb137]? = some (.cells #[.slice Ao61 x138000_1.length co61, (.slice AqS x138001_1.length cqS)] 37 (0, 0))) ∧ (IsS93 w0 w' g s0_0 t157) ∧ (KeepBut w w' g none) ∧ (Below w0.heap.size w0 w')) ?_ ?_
         rotate_left
         ·intro hCont
          refine two_ (i := 3) (j := 5) (Ni := some 50) (Nj := some 52) #[true, true, true, true, true, false, false, false, false, false] #[true, true, true, false, true, true, false, false, false, false] rfl rfl rfl rfl (two_of HT_.out (by kernel_rfl)) (by decide) (by decide) (fun K hK => ?_) (fun K hK => ?_)
          ·skip
           refine Kd.R_lit_step (Kd.int .i64) _ 3 ?hg (N := 50) ?hd (xs := ([(-1), 60000, 60001, 0] : List Int)) (inner := [.int .i64 (-1), .int .i64 60000, .int .i64 60001, .int .i64 0]) (ok := fun _ => True) (okp := fun _ => True) ?hr ?hp (fun _ hk => hk) trivial (Below.refl _ _) (Nat.le_refl _) (by simp) ?_; (case hd => rfl); (case hg => rfl); (case hr => first | (go_simp; done) | (go_simp; rfl)); (case hp => exact (Reps.one (show Kd.M (Kd.int .i64) _ _ _ (-1) [.int .i64 (-1)] from rfl) (Reps.one (show Kd.M (Kd.int .i64) _ _ _ 60000 [.int .i64 60000] from rfl) (Reps.one (show Kd.M (Kd.int .i64) _ _ _ 60001 [.int .i64 60001] from rfl) (Reps.one (show Kd.M (Kd.int .i64) _ _ _ 0 [.int .i64 0] from rfl) (Reps.none _ _))))))
           intro v154 w65 ho66 hb hg_ hnew_
           clear hg_ hnew_
           (first | rw [← Ny153.out] at ho66 | (simp only [Int.reduceToNat] at ho66; rw [← Ny153.out] at ho66))
           have n0_ := qM (Kd.R_elder' (by (with_reducible repeat (first | apply qA | apply qN | apply qD)); exact HO_138000.out) (Kd.R_base ho66) hb)
           have n1_ := qM (Kd.R_elder' (by (with_reducible repeat (first | apply qA | apply qN | apply qD)); exact HO_138001.out) (Kd.R_base ho66) hb)
           have n2_ := qM (Kd.R_lower (Kd.R_new' (Kd.R_new' ho66 (Kd.R_lt (by (with_reducible repeat (first | apply qA | apply qN | apply qD)); exact HO_138000.out))) (Kd.R_lt (by (with_reducible repeat (first | apply qA | apply qN | apply qD)); exact HO_138001.out))) (keep_size (w := w) (g := g) (row := none) (by repeat (first | (with_reducible first | exact HK.out | apply KeepBut.set_ | apply keep_drewN | apply keep_drew | apply keep_alloc | refine keep_far ?_ GW128.out _ | refine keep_far ?_ GW137.out _) | exact HK.out))))
           have n3_ := qM (blk_below (g := gb128) (o := .cells #[.slice none 0 0, .slice none 0 0] 37 (0, 0)) (by (with_reducible repeat (first | refine zN ?_ _ | refine zD ?_ | refine zA ?_ _)); exact BK128.out) hb)
           have n4_ := qM (blk_below (g := gb137) (o := .cells #[.slice Ao61 x138000_1.length co61, (.slice AqS x138001_1.length cqS)] 37 (0, 0)) (by (with_reducible repeat (first | refine zN ?_ _ | refine zD ?_ | refine zA ?_ _)); exact BK137.out) hb)
           have n5_ := qM (IsS93.below (by repeat (first | (with_reducible first | exact HI0.out | apply IsS93.alloc | apply IsS93.drewN | apply IsS93.drew | apply IsS93.set_1 | refine IsS93.far ?_ NB0_128.out _ | refine IsS93.far ?_ NB0_137.out _) | exact HI0.out)) hb)
           have n6_ := qM (KeepBut.trans (by repeat (first | (with_reducible first | exact HK.out | apply KeepBut.set_ | apply keep_drewN | apply keep_drew | apply keep_alloc | refine keep_far ?_ GW128.out _ | refine keep_far ?_ GW137.out _) | exact HK.out)) (KeepBut.of_below hb g none) (.inl rfl))
           have n7_ := qM (below_step (by repeat (first | (with_reducible first | exact HB.out | apply yA | apply yN | apply yD | refine yS ?_ (IsS93.ge HI0.out) | refine yS ?_ GE128.out | refine yS ?_ GE137.out) | exact HB.out)) hb)
           clear HO_138000
           clear HO_138001
           clear BK128
           clear BK137
           clear HI0
           clear HK
           clear HB
           have HO_138000 := n0_
           have HO_138001 := n1_
           have HO155 := n2_
           have BK128 := n3_
           have BK137 := n4_
           have HI0 := n5_
           have HK := n6_
           have HB := n7_
           clear n0_ n1_ n2_ n3_ n4_ n5_ n6_ n7_
           clear hb ho66
           obtain ⟨Ao67, co67, eo67⟩ := Kd.R_slice HO155.out
           subst eo67
           obtain ⟨ado67, fo67, _⟩ := Kd.at_int (qR HO155.out).2.2 0 (by decide) (by rw [Ny153.out]; simp)
           cases fo67
           refine hK.out _ _ ⟨(zC BK137.out 0).trans rfl, (zC BK137.out 1).trans rfl⟩ (fun hHeld => ?_)
           clear hK K
           refine norm_ (a' := ?_) ?_ ?_
           rotate_left
           ·show Act.put _ (some 50) _ = _
            simp only [Act.put, List.setIfInBounds_toArray, List.set_cons_zero, List.set_cons_succ, i64_w, i32_w]
            rfl
           refine one_ (i := 5) (N := some 52) #[true, true, true, true, true, true, false, false, false, false] rfl rfl (one_of HT_.out (by kernel_rfl)) (by decide) (fun K hK => ?_)
           refine goes_ Try.func53 (by kernel_rfl) rfl #[.pointer (some ⟨g, 0, none⟩), .int .i64 4] (by rfl) rfl rfl (by (try simp only [List.map_toArray, List.map_cons, List.map_nil]); first | done | rfl | (simp only [List.length_drop, List.length_take]; rfl)) ?_
           with_reducible refine (spec_l30Rd_pick.calls k1 g s0_0 t152 4 t156 t157 w0 _ ?side1 ?side2 A52.out).mono ?_
           (case side1 => repeat (first | (with_reducible first | exact HI0.out | apply IsS93.alloc | apply IsS93.drewN | apply IsS93.drew | apply IsS93.set_1 | refine IsS93.far ?_ NB0_128.out _ | refine IsS93.far ?_ NB0_137.out _) | exact HI0.out))
           (case side2 => repeat (first | (with_reducible first | exact HB.out | apply yA | apply yN | apply yD | refine yS ?_ (IsS93.ge HI0.out) | refine yS ?_ GE128.out | refine yS ?_ GE137.out) | exact HB.out))
           rintro e w68 ⟨rfl, hi, hb, hk⟩
           refine ⟨_, rfl, ?_⟩
           have n0_ := qM (Kd.R_mono (Kd.R_keep (IsS93.apart (show IsS93 w0 _ g s0_0 t152 from by repeat (first | (with_reducible first | exact HI0.out | apply IsS93.alloc | apply IsS93.drewN | apply IsS93.drew | apply IsS93.set_1 | refine IsS93.far ?_ NB0_128.out _ | refine IsS93.far ?_ NB0_137.out _) | exact HI0.out)) (by (with_reducible repeat (first | apply qA | apply qN | apply qD)); exact HO_138000.out) (by decide)) hk (fun _ h => h.2)) (fun _ h => h.1))
           have n1_ := qM (Kd.R_mono (Kd.R_keep (IsS93.apart (show IsS93 w0 _ g s0_0 t152 from by repeat (first | (with_reducible first | exact HI0.out | apply IsS93.alloc | apply IsS93.drewN | apply IsS93.drew | apply IsS93.set_1 | refine IsS93.far ?_ NB0_128.out _ | refine IsS93.far ?_ NB0_137.out _) | exact HI0.out)) (by (with_reducible repeat (first | apply qA | apply qN | apply qD)); exact HO_138001.out) (by decide)) hk (fun _ h => h.2)) (fun _ h => h.1))
           have n2_ := qM (KeepBut.blk hk (g' := gb128) (o := .cells #[.slice none 0 0, .slice none 0 0] 37 (0, 0)) (by (with_reducible repeat (first | refine zN ?_ _ | refine zD ?_ | refine zA ?_ _)); exact BK128.out) NB128_0.out (by simp))
           have n3_ := qM (KeepBut.blk hk (g' := gb137) (o := .cells #[.slice Ao61 x138000_1.length co61, (.slice AqS x138001_1.length cqS)] 37 (0, 0)) (by (with_reducible repeat (first | refine zN ?_ _ | refine zD ?_ | refine zA ?_ _)); exact BK137.out) NB137_0.out (by simp))
           have n4_ := qM (Kd.R_mono (Kd.R_keep (IsS93.apart (show IsS93 w0 _ g s0_0 t152 from by repeat (first | (with_reducible first | exact HI0.out | apply IsS93.alloc | apply IsS93.drewN | apply IsS93.drew | apply IsS93.set_1 | refine IsS93.far ?_ NB0_128.out _ | refine IsS93.far ?_ NB0_137.out _) | exact HI0.out)) (by (with_reducible repeat (first | apply qA | apply qN | apply qD)); exact HO155.out) (by decide)) hk (fun _ h => h.2)) (fun _ h => h.1))
           have n5_ := qM (KeepBut.trans (by repeat (first | (with_reducible first | exact HK.out | apply KeepBut.set_ | apply keep_drewN | apply keep_drew | apply keep_alloc | refine keep_far ?_ GW128.out _ | refine keep_far ?_ GW137.out _) | exact HK.out)) hk (.inl rfl))
           have n6_ := qM (hb)
           have n7_ := qM (hi)
           clear HO_138000
           clear HO_138001
           clear BK128
           clear BK137
           clear HO155
           clear HK
           clear HB
           clear HI0
           have HO_138000 := n0_
           have HO_138001 := n1_
           have BK128 := n2_
           have BK137 := n3_
           have HO155 := n4_
           have HK := n5_
           have HB := n6_
           have HI0 := n7_
           clear n0_ n1_ n2_ n3_ n4_ n5_ n6_ n7_
           (try clear hb)
           (try clear hb2)
           (try clear hk)
           (try clear hi)
           refine hK.out _ _ ⟨(zC BK137.out 0).trans rfl, (zC BK137.out 1).trans rfl⟩ (fun hHeld => ?_)
           clear hK K
           refine norm_ (a' := ?_) ?_ ?_
           rotate_left
           ·show Act.put _ (some 52) _ = _
            simp only [Act.put, List.setIfInBounds_toArray, List.set_cons_zero, List.set_cons_succ, i64_w, i32_w]
            rfl
           exact norm_ (by simp only [putAll, Act.put, List.setIfInBounds_toArray, List.set_cons_zero, List.set_cons_succ]) (hCont (.slice (some ado67) y153.length co67, ado67) _ ⟨hHeld, (by (with_reducible repeat (first | apply qA | apply qN | apply qD)); exact Kd.R_mono HO155.out (fun _ hk => ⟨hk.1.2, hk.2⟩)), (by (with_reducible repeat (first | apply qA | apply qN | apply qD)); exact Kd.R_mono HO_138000.out (fun _ hk => ⟨hk.2, hk.1⟩)), (by (with_reducible repeat (first | apply qA | apply qN | apply qD)); exact Kd.R_mono HO_138001.out (fun _ hk => ⟨hk.2, hk.1⟩)), ⟨_, rfl⟩, (by (with_reducible repeat (first | refine zN ?_ _ | refine zD ?_ | refine zA ?_ _)); exact BK128.out), (by (with_reducible repeat (first | refine zN ?_ _ | refine zD ?_ | refine zA ?_ _)); exact BK137.out), (by repeat (first | (with_reducible first | exact HI0.out | apply IsS93.alloc | apply IsS93.drewN | apply IsS93.drew | apply IsS93.set_1 | refine IsS93.far ?_ NB0_128.out _ | refine IsS93.far ?_ NB0_137.out _) | exact HI0.out)), (by repeat (first | (with_reducible first | exact HK.out | apply KeepBut.set_ | apply keep_drewN | apply keep_drew | apply keep_alloc | refine keep_far ?_ GW128.out _ | refine keep_far ?_ GW137.out _) | exact HK.out)), (by repeat (first | (with_reducible first | exact HB.out | apply yA | apply yN | apply yD | refine yS ?_ (IsS93.ge HI0.out) | refine yS ?_ GE128.out | refine yS ?_ GE137.out) | exact HB.out))⟩)
          ·skip
           refine goes_ Try.func53 (by kernel_rfl) rfl #[.pointer (some ⟨g, 0, none⟩), .int .i64 4] (by rfl) rfl rfl (by (try simp only [List.map_toArray, List.map_cons, List.map_nil]); first | done | rfl | (simp only [List.length_drop, List.length_take]; rfl)) ?_
           with_reducible refine (spec_l30Rd_pick.calls k1 g s0_0 t152 4 t156 t157 w0 _ ?side1 ?side2 A52.out).mono ?_
           (case side1 => repeat (first | (with_reducible first | exact HI0.out | apply IsS93.alloc | apply IsS93.drewN | apply IsS93.drew | apply IsS93.set_1 | refine IsS93.far ?_ NB0_128.out _ | refine IsS93.far ?_ NB0_137.out _) | exact HI0.out))
           (case side2 => repeat (first | (with_reducible first | exact HB.out | apply yA | apply yN | apply yD | refine yS ?_ (IsS93.ge HI0.out) | refine yS ?_ GE128.out | refine yS ?_ GE137.out) | exact HB.out))
           rintro e w65 ⟨rfl, hi, hb, hk⟩
           refine ⟨_, rfl, ?_⟩
           have n0_ := qM (Kd.R_mono (Kd.R_keep (IsS93.apart (show IsS93 w0 _ g s0_0 t152 from by repeat (first | (with_reducible first | exact HI0.out | apply IsS93.alloc | apply IsS93.drewN | apply IsS93.drew | apply IsS93.set_1 | refine IsS93.far ?_ NB0_128.out _ | refine IsS93.far ?_ NB0_137.out _) | exact HI0.out)) (by (with_reducible repeat (first | apply qA | apply qN | apply qD)); exact HO_138000.out) (by decide)) hk (fun _ h => h.2)) (fun _ h => h.1))
           have n1_ := qM (Kd.R_mono (Kd.R_keep (IsS93.apart (show IsS93 w0 _ g s0_0 t152 from by repeat (first | (with_reducible first | exact HI0.out | apply IsS93.alloc | apply IsS93.drewN | apply IsS93.drew | apply IsS93.set_1 | refine IsS93.far ?_ NB0_128.out _ | refine IsS93.far ?_ NB0_137.out _) | exact HI0.out)) (by (with_reducible repeat (first | apply qA | apply qN | apply qD)); exact HO_138001.out) (by decide)) hk (fun _ h => h.2)) (fun _ h => h.1))
           have n2_ := qM (KeepBut.blk hk (g' := gb128) (o := .cells #[.slice none 0 0, .slice none 0 0] 37 (0, 0)) (by (with_reducible repeat (first | refine zN ?_ _ | refine zD ?_ | refine zA ?_ _)); exact BK128.out) NB128_0.out (by simp))
           have n3_ := qM (KeepBut.blk hk (g' := gb137) (o := .cells #[.slice Ao61 x138000_1.length co61, (.slice AqS x138001_1.length cqS)] 37 (0, 0)) (by (with_reducible repeat (first | refine zN ?_ _ | refine zD ?_ | refine zA ?_ _)); exact BK137.out) NB137_0.out (by simp))
           have n4_ := qM (KeepBut.trans (by repeat (first | (with_reducible first | exact HK.out | apply KeepBut.set_ | apply keep_drewN | apply keep_drew | apply keep_alloc | refine keep_far ?_ GW128.out _ | refine keep_far ?_ GW137.out _) | exact HK.out)) hk (.inl rfl))
           have n5_ := qM (hb)
           have n6_ := qM (hi)
           clear HO_138000
           clear HO_138001
           clear BK128
           clear BK137
           clear HK
           clear HB
           clear HI0
           have HO_138000 := n0_
           have HO_138001 := n1_
           have BK128 := n2_
           have BK137 := n3_
           have HK := n4_
           have HB := n5_
           have HI0 := n6_
           clear n0_ n1_ n2_ n3_ n4_ n5_ n6_
           (try clear hb)
           (try clear hb2)
           (try clear hk)
           (try clear hi)
           refine hK.out _ _ ⟨(zC BK137.out 0).trans rfl, (zC BK137.out 1).trans rfl⟩ (fun hHeld => ?_)
           clear hK K
           refine norm_ (a' := ?_) ?_ ?_
           rotate_left
           ·show Act.put _ (some 52) _ = _
            simp only [Act.put, List.setIfInBounds_toArray, List.set_cons_zero, List.set_cons_succ, i64_w, i32_w]
            rfl
           refine one_ (i := 3) (N := some 50) #[true, true, true, true, true, true, false, false, false, false] rfl rfl (one_of HT_.out (by kernel_rfl)) (by decide) (fun K hK => ?_)
           refine Kd.R_lit_step (Kd.int .i64) _ 3 ?hg (N := 50) ?hd (xs := ([(-1), 60000, 60001, 0] : List Int)) (inner := [.int .i64 (-1), .int .i64 60000, .int .i64 60001, .int .i64 0]) (ok := fun _ => True) (okp := fun _ => True) ?hr ?hp (fun _ hk => hk) trivial (Below.refl _ _) (Nat.le_refl _) (by simp) ?_; (case hd => rfl); (case hg => rfl); (case hr => first | (go_simp; done) | (go_simp; rfl)); (case hp => exact (Reps.one (show Kd.M (Kd.int .i64) _ _ _ (-1) [.int .i64 (-1)] from rfl) (Reps.one (show Kd.M (Kd.int .i64) _ _ _ 60000 [.int .i64 60000] from rfl) (Reps.one (show Kd.M (Kd.int .i64) _ _ _ 60001 [.int .i64 60001] from rfl) (Reps.one (show Kd.M (Kd.int .i64) _ _ _ 0 [.int .i64 0] from rfl) (Reps.none _ _))))))
           intro v154 w66 ho67 hb hg_ hnew_
           clear hg_ hnew_
           (first | rw [← Ny153.out] at ho67 | (simp only [Int.reduceToNat] at ho67; rw [← Ny153.out] at ho67))
           have n0_ := qM (Kd.R_elder' (by (with_reducible repeat (first | apply qA | apply qN | apply qD)); exact HO_138000.out) (Kd.R_base ho67) hb)
           have n1_ := qM (Kd.R_elder' (by (with_reducible repeat (first | apply qA | apply qN | apply qD)); exact HO_138001.out) (Kd.R_base ho67) hb)
           have n2_ := qM (Kd.R_lower (Kd.R_new' (Kd.R_new' ho67 (Kd.R_lt (by (with_reducible repeat (first | apply qA | apply qN | apply qD)); exact HO_138000.out))) (Kd.R_lt (by (with_reducible repeat (first | apply qA | apply qN | apply qD)); exact HO_138001.out))) (keep_size (w := w) (g := g) (row := none) (by repeat (first | (with_reducible first | exact HK.out | apply KeepBut.set_ | apply keep_drewN | apply keep_drew | apply keep_alloc | refine keep_far ?_ GW128.out _ | refine keep_far ?_ GW137.out _) | exact HK.out))))
           have n3_ := qM (blk_below (g := gb128) (o := .cells #[.slice none 0 0, .slice none 0 0] 37 (0, 0)) (by (with_reducible repeat (first | refine zN ?_ _ | refine zD ?_ | refine zA ?_ _)); exact BK128.out) hb)
           have n4_ := qM (blk_below (g := gb137) (o := .cells #[.slice Ao61 x138000_1.length co61, (.slice AqS x138001_1.length cqS)] 37 (0, 0)) (by (with_reducible repeat (first | refine zN ?_ _ | refine zD ?_ | refine zA ?_ _)); exact BK137.out) hb)
           have n5_ := qM (IsS93.below (by repeat (first | (with_reducible first | exact HI0.out | apply IsS93.alloc | apply IsS93.drewN | apply IsS93.drew | apply IsS93.set_1 | refine IsS93.far ?_ NB0_128.out _ | refine IsS93.far ?_ NB0_137.out _) | exact HI0.out)) hb)
           have n6_ := qM (KeepBut.trans (by repeat (first | (with_reducible first | exact HK.out | apply KeepBut.set_ | apply keep_drewN | apply keep_drew | apply keep_alloc | refine keep_far ?_ GW128.out _ | refine keep_far ?_ GW137.out _) | exact HK.out)) (KeepBut.of_below hb g none) (.inl rfl))
           have n7_ := qM (below_step (by repeat (first | (with_reducible first | exact HB.out | apply yA | apply yN | apply yD | refine yS ?_ (IsS93.ge HI0.out) | refine yS ?_ GE128.out | refine yS ?_ GE137.out) | exact HB.out)) hb)
           clear HO_138000
           clear HO_138001
           clear BK128
           clear BK137
           clear HI0
           clear HK
           clear HB
           have HO_138000 := n0_
           have HO_138001 := n1_
           have HO155 := n2_
           have BK128 := n3_
           have BK137 := n4_
           have HI0 := n5_
           have HK := n6_
           have HB := n7_
           clear n0_ n1_ n2_ n3_ n4_ n5_ n6_ n7_
           clear hb ho67
           obtain ⟨Ao68, co68, eo68⟩ := Kd.R_slice HO155.out
           subst eo68
           obtain ⟨ado68, fo68, _⟩ := Kd.at_int (qR HO155.out).2.2 0 (by decide) (by rw [Ny153.out]; simp)
           cases fo68
           refine hK.out _ _ ⟨(zC BK137.out 0).trans rfl, (zC BK137.out 1).trans rfl⟩ (fun hHeld => ?_)
           clear hK K
           refine norm_ (a' := ?_) ?_ ?_
           rotate_left
           ·show Act.put _ (some 50) _ = _
            simp only [Act.put, List.setIfInBounds_toArray, List.set_cons_zero, List.set_cons_succ, i64_w, i32_w]
            rfl
           exact norm_ (by simp only [putAll, Act.put, List.setIfInBounds_toArray, List.set_cons_zero, List.set_cons_succ]) (hCont (.slice (some ado68) y153.length co68, ado68) _ ⟨hHeld, (by (with_reducible repeat (first | apply qA | apply qN | apply qD)); exact Kd.R_mono HO155.out (fun _ hk => ⟨hk.1.2, hk.2⟩)), (by (with_reducible repeat (first | apply qA | apply qN | apply qD)); exact Kd.R_mono HO_138000.out (fun _ hk => ⟨hk.2, hk.1⟩)), (by (with_reducible repeat (first | apply qA | apply qN | apply qD)); exact Kd.R_mono HO_138001.out (fun _ hk => ⟨hk.2, hk.1⟩)), ⟨_, rfl⟩, (by (with_reducible repeat (first | refine zN ?_ _ | refine zD ?_ | refine zA ?_ _)); exact BK128.out), (by (with_reducible repeat (first | refine zN ?_ _ | refine zD ?_ | refine zA ?_ _)); exact BK137.out), (by repeat (first | (with_reducible first | exact HI0.out | apply IsS93.alloc | apply IsS93.drewN | apply IsS93.drew | apply IsS93.set_1 | refine IsS93.far ?_ NB0_128.out _ | refine IsS93.far ?_ NB0_137.out _) | exact HI0.out)), (by repeat (first | (with_reducible first | exact HK.out | apply KeepBut.set_ | apply keep_drewN | apply keep_drew | apply keep_alloc | refine keep_far ?_ GW128.out _ | refine keep_far ?_ GW137.out _) | exact HK.out)), (by repeat (first | (with_reducible first | exact HB.out | apply yA | apply yN | apply yD | refine yS ?_ (IsS93.ge HI0.out) | refine yS ?_ GE128.out | refine yS ?_ GE137.out) | exact HB.out))⟩)
         rintro ⟨v154, adz_v154⟩ w69 ⟨hS_, h0_, h1_, h2_, h3_, h4_, h5_, h6_, h7_, h8_⟩
         have n0_ : Aside0 (Kd.R (Kd.int .i64) 3 w69 w.heap.size (fun k_ => some k_ ≠ (.slice Ao61 x138000_1.length co61 : Value).ownBlock ∧ some k_ ≠ ((.slice AqS x138001_1.length cqS) : Value).ownBlock) v154 y153) := ⟨h0_⟩
         have n1_ : Aside0 (Kd.R (Kd.int .i64) 3 w69 w.heap.size (fun k_ => some k_ ≠ (v154 : Value).ownBlock ∧ some k_ ≠ ((.slice AqS x138001_1.length cqS) : Value).ownBlock) (.slice Ao61 x138000_1.length co61) x138000_1) := ⟨h1_⟩
         have n2_ : Aside0 (Kd.R (Kd.int .i64) 3 w69 w.heap.size (fun k_ => some k_ ≠ (v154 : Value).ownBlock ∧ some k_ ≠ (.slice Ao61 x138000_1.length co61 : Value).ownBlock) (.slice AqS x138001_1.length cqS) x138001_1) := ⟨h2_⟩
         have n3_ : Aside0 (∃ c_, (v154 : Value) = .slice (some adz_v154) y153.length c_) := ⟨h3_⟩
         have n4_ : Aside0 (w69.heap[gb128]? = some (.cells #[.slice none 0 0, .slice none 0 0] 37 (0, 0))) := ⟨h4_⟩
         have n5_ : Aside0 (w69.heap[gb137]? = some (.cells #[.slice Ao61 x138000_1.length co61, (.slice AqS x138001_1.length cqS)] 37 (0, 0))) := ⟨h5_⟩
         have n6_ : Aside0 (IsS93 w0 w69 g s0_0 t157) := ⟨h6_⟩
         have n7_ : Aside0 (KeepBut w w69 g none) := ⟨h7_⟩
         have n8_ : Aside0 (Below w0.heap.size w0 w69) := ⟨h8_⟩
         clear HO_138000
         clear HO_138001
         clear BK128
         clear BK137
         clear HI0
         clear HK
         clear HB
         clear h0_ h1_ h2_ h3_ h4_ h5_ h6_ h7_ h8_
         have HO155 := n0_
         have HO_138000 := n1_
         have HO_138001 := n2_
         have HA_HO155 := n3_
         have BK128 := n4_
         have BK137 := n5_
         have HI0 := n6_
         have HK := n7_
         have HB := n8_
         clear n0_ n1_ n2_ n3_ n4_ n5_ n6_ n7_ n8_
         have hHeld : w69.cell? ⟨gb137, 0, none⟩ = some (.slice Ao61 x138000_1.length co61) ∧ w69.cell? ⟨gb137, 1, none⟩ = some ((.slice AqS x138001_1.length cqS)) := hS_
         obtain ⟨co70, eo70⟩ := HA_HO155.out
         clear HA_HO155
         subst eo70
         have p57 : 0 ≤ (t149 : Int) := of_decide_eq_true (by first | (with_reducible assumption) | assumption)
         have q57 : (t149 : Int) < ((x138000_1.length : Int) : Int) := of_decide_eq_true (by first | (with_reducible assumption) | assumption)
         obtain ⟨go57, co57, eo57, gb57, gl57, cl57, HG57⟩ := Kd.R_form HO_138000.out (by omega)
         (first | cases eo57 | (injection eo57 with ea_ en_ ec_; (first | subst ea_ | (injection ea_ with ea_; subst ea_)); subst ec_; clear en_))
         have GB57 := qM gb57
         have GG57 := qM HG57
         clear gb57 gl57 HG57
         obtain ⟨hx57_0, hf57_0⟩ := Kd.R_celln 0 HO_138000.out (t149 : Int) p57 q57
         replace p57 := eq_true p57
         replace q57 := eq_true q57
         have HN0_go57 := qM (show g ≠ go57 from by have h_ := IsS93.own_ne HI0.out HO_138000.out (by decide); intro e_; exact h_ (by rw [e_]; rfl))
         have HP71 := Kd.R_putn HO_138000.out (t149 : Int) (rd y153 t156)
         rw [← Ny159.out] at HP71
         have HQ71 := qM HP71
         clear HP71
         refine norm_ (a' := ?_) ?_ ?_
         rotate_left
         ·simp only [putAll, Act.put, List.setIfInBounds_toArray, List.set_cons_zero, List.set_cons_succ]
          rfl
         refine pure_ (i := 6) (N := some 53) (v := ?_) (a' := ?_) #[true, true, true, true, true, true, true, false, false, false] rfl rfl (any_of HT_.out (by kernel_rfl)) (fun _ _ _ h => h) (Or.inl ⟨by rfl, ?_⟩) ?_ ?_
         rotate_left
         ·intro w'
          go_simp
          with_reducible rfl
         rotate_left
         ·simp only [Act.put, List.setIfInBounds_toArray, List.set_cons_zero, List.set_cons_succ, i64_w, i32_w]
          rfl
         refine one_ (i := 7) (N := some 54) #[true, true, true, true, true, true, true, true, false, false] rfl rfl (one_of HT_.out (by kernel_rfl)) (by decide) (fun K hK => ?_)
         (have p158 : 0 ≤ (t156 : Int) := of_decide_eq_true (by first | (with_reducible assumption) | assumption); have q158 : t156 < (y153.length : Int) := of_decide_eq_true (by first | (with_reducible assumption) | assumption); obtain ⟨ad158, e158, hx158_0⟩ := Kd.at_int (qR HO155.out).2.2 t156 p158 q158; obtain rfl : adz_v154 = ad158 := (by injection e158))
         refine value_ (w1 := ?_) (v := ?_) (by rfl) rfl ?_ ?_
         rotate_left 2
         ·go_simp
          constructor
          ·rfl
          ·rfl
         clear hx158_0
         refine hK.out _ _ ⟨(zC BK137.out 0).trans rfl, (zC BK137.out 1).trans rfl⟩ (fun hHeld => ?_)
         clear hK K
         refine norm_ (a' := ?_) ?_ ?_
         rotate_left
         ·show Act.put _ (some 54) _ = _
          simp only [Act.put, List.setIfInBounds_toArray, List.set_cons_zero, List.set_cons_succ, i64_w, i32_w]
          rfl
         refine pure_ (i := 8) (N := some 55) (v := ?_) (a' := ?_) #[true, true, true, true, true, true, true, true, true, false] rfl rfl (any_of HT_.out (by kernel_rfl)) (fun _ _ _ h => h) (Or.inl ⟨by rfl, ?_⟩) ?_ ?_
         rotate_left
         ·intro w'
          go_simp
          with_reducible rfl
         rotate_left
         ·simp only [Act.put, List.setIfInBounds_toArray, List.set_cons_zero, List.set_cons_succ, i64_w, i32_w]
          rfl
         refine last_ (i := 9) (N := none) #[true, true, true, true, true, true, true, true, true, true] rfl rfl (one_of HT_.out (by kernel_rfl)) (by decide) (fun K hK => ?_)
         refine skip_ (w1 := ?_) (by rfl) rfl ?_ ?_
         rotate_left
         ·go_simp
          rfl
         refine hK.out _ _ ?_
         clear hK K
         refine done_ (done_of HT_.out (by kernel_rfl)) ?_
         have n0_ : Aside0 (Kd.R (Kd.int .i64) 3 (w69.setCell ⟨go57, (t149 : Int).toNat, none⟩ (.int .i64 (rd y153 t156))) w.heap.size (fun k_ => some k_ ≠ ((.slice AqS x138001_1.length cqS) : Value).ownBlock ∧ some k_ ≠ (.slice (some adz_v154) y153.length co70 : Value).ownBlock) (.slice (some ⟨go57, 0, none⟩) x138000_1.length co61) y159) := ⟨by (with_reducible repeat (first | apply qA | apply qN | apply qD)); exact Kd.R_mono HQ71.out (fun _ hk => ⟨hk.2, hk.1⟩)⟩
         have n1_ : Aside0 (Kd.R (Kd.int .i64) 3 (w69.setCell ⟨go57, (t149 : Int).toNat, none⟩ (.int .i64 (rd y153 t156))) w.heap.size (fun k_ => some k_ ≠ (.slice (some ⟨go57, 0, none⟩) x138000_1.length co61 : Value).ownBlock ∧ some k_ ≠ (.slice (some adz_v154) y153.length co70 : Value).ownBlock) (.slice AqS x138001_1.length cqS) x138001_1) := ⟨by (with_reducible repeat (first | apply qA | apply qN | apply qD)); exact Kd.R_mono (qF (p := ⟨go57, (t149 : Int).toNat, none⟩) (Kd.R_mono HO_138001.out (fun k_ hk => (⟨hk, fun e_ => hk.2 (by rw [e_]; rfl)⟩ : _ ∧ k_ ≠ go57))) (fun _ hk => hk.2) (.int .i64 (rd y153 t156))) (fun _ hk => ⟨hk.1.2, hk.1.1⟩)⟩
         have n2_ : Aside0 (Kd.R (Kd.int .i64) 3 (w69.setCell ⟨go57, (t149 : Int).toNat, none⟩ (.int .i64 (rd y153 t156))) w.heap.size (fun k_ => some k_ ≠ (.slice (some ⟨go57, 0, none⟩) x138000_1.length co61 : Value).ownBlock ∧ some k_ ≠ ((.slice AqS x138001_1.length cqS) : Value).ownBlock) (.slice (some adz_v154) y153.length co70) y153) := ⟨by (with_reducible repeat (first | apply qA | apply qN | apply qD)); exact Kd.R_mono (qF (p := ⟨go57, (t149 : Int).toNat, none⟩) (Kd.R_mono HO155.out (fun k_ hk => (⟨hk, fun e_ => hk.1 (by rw [e_]; rfl)⟩ : _ ∧ k_ ≠ go57))) (fun _ hk => hk.2) (.int .i64 (rd y153 t156))) (fun _ hk => ⟨hk.1.1, hk.1.2⟩)⟩
         have n3_ : Aside0 ((w69.setCell ⟨go57, (t149 : Int).toNat, none⟩ (.int .i64 (rd y153 t156))).heap[gb128]? = some (.cells #[.slice none 0 0, .slice none 0 0] 37 (0, 0))) := ⟨by (with_reducible repeat (first | refine zN ?_ _ | refine zD ?_ | refine zA ?_ _)); refine blk_far ?_ (by have h_ := Kd.R_ne HO_138000.out BK128.out (by decide); intro e_; exact h_ (by rw [e_]; rfl)) _; (with_reducible repeat (first | refine zN ?_ _ | refine zD ?_ | refine zA ?_ _)); exact BK128.out⟩
         have n4_ : Aside0 ((w69.setCell ⟨go57, (t149 : Int).toNat, none⟩ (.int .i64 (rd y153 t156))).heap[gb137]? = some (.cells #[.slice (some ⟨go57, 0, none⟩) x138000_1.length co61, (.slice AqS x138001_1.length cqS)] 37 (0, 0))) := ⟨by (with_reducible repeat (first | refine zN ?_ _ | refine zD ?_ | refine zA ?_ _)); refine blk_far ?_ (by have h_ := Kd.R_ne HO_138000.out BK137.out (by decide); intro e_; exact h_ (by rw [e_]; rfl)) _; (with_reducible repeat (first | refine zN ?_ _ | refine zD ?_ | refine zA ?_ _)); exact BK137.out⟩
         have n5_ : Aside0 (IsS93 w0 (w69.setCell ⟨go57, (t149 : Int).toNat, none⟩ (.int .i64 (rd y153 t156))) g s0_0 t157) := ⟨by repeat (first | (with_reducible first | exact HI0.out | apply IsS93.alloc | apply IsS93.drewN | apply IsS93.drew | apply IsS93.set_1 | refine IsS93.far ?_ HN0_go57.out _ | refine IsS93.far ?_ NB0_128.out _ | refine IsS93.far ?_ NB0_137.out _) | exact HI0.out)⟩
         have n6_ : Aside0 (KeepBut w (w69.setCell ⟨go57, (t149 : Int).toNat, none⟩ (.int .i64 (rd y153 t156))) g none) := ⟨by repeat (first | (with_reducible first | exact HK.out | apply KeepBut.set_ | apply keep_drewN | apply keep_drew | apply keep_alloc | refine keep_far ?_ GB57.out _ | refine keep_far ?_ GW128.out _ | refine keep_far ?_ GW137.out _) | exact HK.out)⟩
         have n7_ : Aside0 (Below w0.heap.size w0 (w69.setCell ⟨go57, (t149 : Int).toNat, none⟩ (.int .i64 (rd y153 t156)))) := ⟨by repeat (first | (with_reducible first | exact HB.out | apply yA | apply yN | apply yD | refine yS ?_ (Nat.le_trans HL.out GB57.out) | refine yS ?_ (IsS93.ge HI0.out) | refine yS ?_ GE128.out | refine yS ?_ GE137.out) | exact HB.out)⟩
         (try clear HO_138000)
         (try clear HO_138001)
         (try clear HO155)
         (try clear BK128)
         (try clear BK137)
         (try clear HI0)
         (try clear HK)
         (try clear HB)
         generalize (w69.setCell ⟨go57, (t149 : Int).toNat, none⟩ (.int .i64 (rd y153 t156))) = w72 at n0_ n1_ n2_ n3_ n4_ n5_ n6_ n7_ ⊢
         have HO_138000 := n0_
         have HO_138001 := n1_
         have HO155 := n2_
         have BK128 := n3_
         have BK137 := n4_
         have HI0 := n5_
         have HK := n6_
         have HB := n7_
         clear n0_ n1_ n2_ n3_ n4_ n5_ n6_ n7_
         have hcz73_0 : w72.cell? ⟨gb137, 0, none⟩ = some (.slice (some ⟨go57, 0, none⟩) x138000_1.length co61) := (zC BK137.out 0).trans rfl
         have hcz73_1 : w72.cell? ⟨gb137, 1, none⟩ = some ((.slice AqS x138001_1.length cqS)) := (zC BK137.out 1).trans rfl
         have hfz73_0 := zF BK137.out 0
         have hfz73_1 := zF BK137.out 1
         have hnb74 := NB128_0.out
         have hnc74 := NB0_128.out
         have hcz75_0 : w72.cell? ⟨gb128, 0, none⟩ = some (.slice none 0 0) := (zC BK128.out 0).trans rfl
         have hcz75_1 : w72.cell? ⟨gb128, 1, none⟩ = some (.slice none 0 0) := (zC BK128.out 1).trans rfl
         have hfz75_0 := zF BK128.out 0
         have hfz75_1 := zF BK128.out 1
         try go_wp2
         refine bodyPost_ret (results_cell_row rfl _ _ gb128 37 #[.slice (some ⟨go57, 0, none⟩) x138000_1.length co61, .slice AqS x138001_1.length cqS] (0, 0) _ rfl (by (with_reducible repeat (first | refine zN ?_ _ | refine zD ?_ | refine zA ?_ _)); refine blk_put (cs := #[.slice (some ⟨go57, 0, none⟩) x138000_1.length co61, .slice none 0 0]) ?_ 1 _ rfl; (with_reducible repeat (first | refine zN ?_ _ | refine zD ?_ | refine zA ?_ _)); refine blk_put (cs := #[.slice none 0 0, .slice none 0 0]) ?_ 0 _ rfl; (with_reducible repeat (first | refine zN ?_ _ | refine zD ?_ | refine zA ?_ _)); exact BK128.out) Try.underlying37 rfl (by kernel_rfl)) rfl ?_
         exact ⟨_, _, by first | rfl | (simp [errW_none, errW_some] <;> rfl) | (simp [*, errW_none, errW_some] <;> rfl), by (with_reducible repeat (first | apply qA | apply qN | apply qD)); exact Kd.R_mono (qF (p := ⟨gb128, 1, none⟩) (qF (p := ⟨gb128, 0, none⟩) (Kd.R_types HO_138000.out BK128.out (by decide)) (fun _ hk => hk.2) (.slice (some ⟨go57, 0, none⟩) x138000_1.length co61)) (fun _ hk => hk.2) (.slice AqS x138001_1.length cqS)) (fun _ hk => hk.1.1), by (with_reducible repeat (first | apply qA | apply qN | apply qD)); exact Kd.R_mono (qF (p := ⟨gb128, 1, none⟩) (qF (p := ⟨gb128, 0, none⟩) (Kd.R_types HO_138001.out BK128.out (by decide)) (fun _ hk => hk.2) (.slice (some ⟨go57, 0, none⟩) x138000_1.length co61)) (fun _ hk => hk.2) (.slice AqS x138001_1.length cqS)) (fun _ hk => hk.1.1), by repeat (first | (with_reducible first | exact HI0.out | apply IsS93.alloc | apply IsS93.drewN | apply IsS93.drew | apply IsS93.set_1 | refine IsS93.far ?_ NB0_128.out _ | refine IsS93.far ?_ NB0_137.out _) | exact HI0.out), by repeat (first | (with_reducible first | exact HB.out | apply yA | apply yN | apply yD | refine yS ?_ (IsS93.ge HI0.out) | refine yS ?_ GE128.out | refine yS ?_ GE137.out) | exact HB.out), by repeat (first | (with_reducible first | exact HK.out | apply KeepBut.set_ | apply keep_drewN | apply keep_drew | apply keep_alloc | refine keep_far ?_ GW128.out _ | refine keep_far ?_ GW137.out _) | exact HK.out)⟩
        ·rw [if_neg c56] at H
         exact absurd H (by simp)
       ·rw [if_neg c55] at H
        exact absurd H (by simp)
      ·rw [if_neg c54] at H
       exact absurd H (by simp)
     ·rw [if_neg c53] at H
      exact absurd H (by simp)
    ·rw [if_neg c51] at H
     have c51b0 : (t151 == 0) = false := beq_eq_false_iff_ne.mpr c51
     have c51b1 : (t151 != 0) = true := bne_iff_ne.mpr c51
     by_cases c77 : t151 = 1
     ·rw [if_pos c77] at H
      have c77b0 : (t151 == 1) = true := beq_iff_eq.mpr c77
      have c77b1 : (t151 != 1) = false := bne_eq_false_iff_eq.mpr c77
      clear c77
      obtain ⟨y160, hy160⟩ : ∃ y_ : List Int, y_ = (([(-1), 60001, 5] : List Int)) := ⟨_, rfl⟩
      replace H : ((spec_l30Rd_pick.f k1 s0_0 t152 3).bind fun bt163 => (if 0 ≤ bt163.1 then (if bt163.1 < (y160.length : Int) then (if 0 ≤ t149 then (if t149 < (x138001_1.length : Int) then (some (x138000_1, (x138001_1.set (t149 : Int).toNat (rd y160 bt163.1)), bt163.2)) else (none)) else (none)) else (none)) else (none))) = some (r1, r2, r3) := by first | (rw [hy160]; with_reducible exact H) | (have H2_ := (Option.bind_some _ _).symm.trans H; rw [hy160]; with_reducible exact H2_) | (have H2_ := (Option.bind_some _ _).symm.trans H; with_reducible exact H2_) | with_reducible exact H | (rw [hy160]; exact H) | exact H
      have Ny160 := qM hy160
      clear hy160
      replace H := Option.bind_eq_some_iff.mp H
      obtain ⟨⟨t163, t164⟩, A780, H⟩ := H
      replace H : (if 0 ≤ t163 then (if t163 < (y160.length : Int) then (if 0 ≤ t149 then (if t149 < (x138001_1.length : Int) then (some (x138000_1, (x138001_1.set (t149 : Int).toNat (rd y160 t163)), t164)) else (none)) else (none)) else (none)) else (none)) = some (r1, r2, r3) := H
      have A78 := qM A780
      clear A780
      by_cases c79 : 0 ≤ t163
      ·rw [if_pos c79] at H
       have c79b0 : decide (0 ≤ t163) = true := decide_eq_true c79
       clear c79
       by_cases c80 : t163 < (y160.length : Int)
       ·rw [if_pos c80] at H
        have c80b0 : decide (t163 < (y160.length : Int)) = true := decide_eq_true c80
        clear c80
        by_cases c81 : 0 ≤ t149
        ·rw [if_pos c81] at H
         have c81b0 : decide (0 ≤ t149) = true := decide_eq_true c81
         clear c81
         by_cases c82 : t149 < (x138001_1.length : Int)
         ·rw [if_pos c82] at H
          have c82b0 : decide (t149 < (x138001_1.length : Int)) = true := decide_eq_true c82
          clear c82
          obtain ⟨y166, hy166⟩ : ∃ y_ : List Int, y_ = (x138001_1.set (t149 : Int).toNat (rd y160 t163)) := ⟨_, rfl⟩
          replace H : (some (x138000_1, y166, t164)) = some (r1, r2, r3) := by first | (rw [hy166]; with_reducible exact H) | (have H2_ := (Option.bind_some _ _).symm.trans H; rw [hy166]; with_reducible exact H2_) | (have H2_ := (Option.bind_some _ _).symm.trans H; with_reducible exact H2_) | with_reducible exact H | (rw [hy166]; exact H) | exact H
          have Ny166 := qM hy166
          clear hy166
          simp only [Option.some.injEq, Prod.mk.injEq] at H
          obtain ⟨rfl, rfl, rfl⟩ := H
          have hnb84 := NB137_128.out
          have hnc84 := NB128_137.out
          have hnb85 := NB137_0.out
          have hnc85 := NB0_137.out
          have hcz86_0 : wr.cell? ⟨gb137, 0, none⟩ = some (u138000) := (zC BK137.out 0).trans rfl
          have hcz86_1 : wr.cell? ⟨gb137, 1, none⟩ = some ((.slice AqS x138001_1.length cqS)) := (zC BK137.out 1).trans rfl
          have hfz86_0 := zF BK137.out 0
          have hfz86_1 := zF BK137.out 1
          obtain ⟨Ao87, co87, eo87⟩ := Kd.R_slice HO_138000.out
          subst eo87
          try go_wp2_with (first | ((with_reducible refine gate_callee (f := 53) rfl ?_); refine goesL_ (some 42) rfl rfl Try.func53 (by kernel_rfl) rfl #[.pointer (some ⟨g, 0, none⟩), .int .i64 (x138000_1.length : Int)] rfl (by (try simp only [List.map_toArray, List.map_cons, List.map_nil]); first | done | rfl | (simp only [List.length_drop, List.length_take]; rfl)) ?_; (with_reducible refine (spec_l30Rd_pick.calls k1 g s0_0 x1001_1 (x138000_1.length : Int) t149 t150 w0 _ ?side1 ?side2 A49.out).mono ?_); (case side1 => repeat (first | (with_reducible first | exact HI0.out | apply IsS93.alloc | apply IsS93.drewN | apply IsS93.drew | apply IsS93.set_1 | refine IsS93.far ?_ NB0_128.out _ | refine IsS93.far ?_ NB0_137.out _) | exact HI0.out)); (case side2 => repeat (first | (with_reducible first | exact HB.out | apply yA | apply yN | apply yD | refine yS ?_ (IsS93.ge HI0.out) | refine yS ?_ GE128.out | refine yS ?_ GE137.out) | exact HB.out)); rintro e w88 ⟨rfl, hi, hb, hk⟩; refine ⟨_, rfl, ?_⟩; have n0_ := qM (Kd.R_mono (Kd.R_keep (IsS93.apart (show IsS93 w0 _ g s0_0 x1001_1 from by repeat (first | (with_reducible first | exact HI0.out | apply IsS93.alloc | apply IsS93.drewN | apply IsS93.drew | apply IsS93.set_1 | refine IsS93.far ?_ NB0_128.out _ | refine IsS93.far ?_ NB0_137.out _) | exact HI0.out)) (by (with_reducible repeat (first | apply qA | apply qN | apply qD)); exact HO_138000.out) (by decide)) hk (fun _ h => h.2)) (fun _ h => h.1)); have n1_ := qM (Kd.R_mono (Kd.R_keep (IsS93.apart (show IsS93 w0 _ g s0_0 x1001_1 from by repeat (first | (with_reducible first | exact HI0.out | apply IsS93.alloc | apply IsS93.drewN | apply IsS93.drew | apply IsS93.set_1 | refine IsS93.far ?_ NB0_128.out _ | refine IsS93.far ?_ NB0_137.out _) | exact HI0.out)) (by (with_reducible repeat (first | apply qA | apply qN | apply qD)); exact HO_138001.out) (by decide)) hk (fun _ h => h.2)) (fun _ h => h.1)); have n2_ := qM (KeepBut.blk hk (g' := gb128) (o := .cells #[.slice none 0 0, .slice none 0 0] 37 (0, 0)) (by (with_reducible repeat (first | refine zN ?_ _ | refine zD ?_ | refine zA ?_ _)); exact BK128.out) NB128_0.out (by simp)); have n3_ := qM (KeepBut.blk hk (g' := gb137) (o := .cells #[.slice Ao87 x138000_1.length co87, (.slice AqS x138001_1.length cqS)] 37 (0, 0)) (by (with_reducible repeat (first | refine zN ?_ _ | refine zD ?_ | refine zA ?_ _)); exact BK137.out) NB137_0.out (by simp)); have n4_ := qM (KeepBut.trans (by repeat (first | (with_reducible first | exact HK.out | apply KeepBut.set_ | apply keep_drewN | apply keep_drew | apply keep_alloc | refine keep_far ?_ GW128.out _ | refine keep_far ?_ GW137.out _) | exact HK.out)) hk (.inl rfl)); have n5_ := qM (hb); have n6_ := qM (hi); clear HO_138000; clear HO_138001; clear BK128; clear BK137; clear HK; clear HB; clear HI0; have HO_138000 := n0_; have HO_138001 := n1_; have BK128 := n2_; have BK137 := n3_; have HK := n4_; have HB := n5_; have HI0 := n6_; clear n0_ n1_ n2_ n3_ n4_ n5_ n6_; (try clear hb); (try clear hb2); (try clear hk); (try clear hi)) | ((with_reducible refine gate_callee (f := 53) rfl ?_); refine goesL_ (some 44) rfl rfl Try.func53 (by kernel_rfl) rfl #[.pointer (some ⟨g, 0, none⟩), .int .i64 16] rfl (by (try simp only [List.map_toArray, List.map_cons, List.map_nil]); first | done | rfl | (simp only [List.length_drop, List.length_take]; rfl)) ?_; (with_reducible refine (spec_l30Rd_pick.calls k1 g s0_0 t150 16 t151 t152 w0 _ ?side1 ?side2 A50.out).mono ?_); (case side1 => repeat (first | (with_reducible first | exact HI0.out | apply IsS93.alloc | apply IsS93.drewN | apply IsS93.drew | apply IsS93.set_1 | refine IsS93.far ?_ NB0_128.out _ | refine IsS93.far ?_ NB0_137.out _) | exact HI0.out)); (case side2 => repeat (first | (with_reducible first | exact HB.out | apply yA | apply yN | apply yD | refine yS ?_ (IsS93.ge HI0.out) | refine yS ?_ GE128.out | refine yS ?_ GE137.out) | exact HB.out)); rintro e w89 ⟨rfl, hi, hb, hk⟩; refine ⟨_, rfl, ?_⟩; have n0_ := qM (Kd.R_mono (Kd.R_keep (IsS93.apart (show IsS93 w0 _ g s0_0 t150 from by repeat (first | (with_reducible first | exact HI0.out | apply IsS93.alloc | apply IsS93.drewN | apply IsS93.drew | apply IsS93.set_1 | refine IsS93.far ?_ NB0_128.out _ | refine IsS93.far ?_ NB0_137.out _) | exact HI0.out)) (by (with_reducible repeat (first | apply qA | apply qN | apply qD)); exact HO_138000.out) (by decide)) hk (fun _ h => h.2)) (fun _ h => h.1)); have n1_ := qM (Kd.R_mono (Kd.R_keep (IsS93.apart (show IsS93 w0 _ g s0_0 t150 from by repeat (first | (with_reducible first | exact HI0.out | apply IsS93.alloc | apply IsS93.drewN | apply IsS93.drew | apply IsS93.set_1 | refine IsS93.far ?_ NB0_128.out _ | refine IsS93.far ?_ NB0_137.out _) | exact HI0.out)) (by (with_reducible repeat (first | apply qA | apply qN | apply qD)); exact HO_138001.out) (by decide)) hk (fun _ h => h.2)) (fun _ h => h.1)); have n2_ := qM (KeepBut.blk hk (g' := gb128) (o := .cells #[.slice none 0 0, .slice none 0 0] 37 (0, 0)) (by (with_reducible repeat (first | refine zN ?_ _ | refine zD ?_ | refine zA ?_ _)); exact BK128.out) NB128_0.out (by simp)); have n3_ := qM (KeepBut.blk hk (g' := gb137) (o := .cells #[.slice Ao87 x138000_1.length co87, (.slice AqS x138001_1.length cqS)] 37 (0, 0)) (by (with_reducible repeat (first | refine zN ?_ _ | refine zD ?_ | refine zA ?_ _)); exact BK137.out) NB137_0.out (by simp)); have n4_ := qM (KeepBut.trans (by repeat (first | (with_reducible first | exact HK.out | apply KeepBut.set_ | apply keep_drewN | apply keep_drew | apply keep_alloc | refine keep_far ?_ GW128.out _ | refine keep_far ?_ GW137.out _) | exact HK.out)) hk (.inl rfl)); have n5_ := qM (hb); have n6_ := qM (hi); clear HO_138000; clear HO_138001; clear BK128; clear BK137; clear HK; clear HB; clear HI0; have HO_138000 := n0_; have HO_138001 := n1_; have BK128 := n2_; have BK137 := n3_; have HK := n4_; have HB := n5_; have HI0 := n6_; clear n0_ n1_ n2_ n3_ n4_ n5_ n6_; (try clear hb); (try clear hb2); (try clear hk); (try clear hi)))
          have pi165 : (0 ≤ (t163 : Int)) = True := eq_true (of_decide_eq_true (by first | (with_reducible assumption) | assumption))
          have qi165 : (t163 < (y160.length : Int)) = True := eq_true (of_decide_eq_true (by first | (with_reducible assumption) | assumption))
          have n0_ := qM (qD HO_138000.out)
          have n1_ := qM (qD HO_138001.out)
          have n2_ := qM (zD BK128.out)
          have n3_ := qM (zD BK137.out)
          have n4_ := qM (IsS93.drew HI0.out)
          have n5_ := qM (keep_drew HK.out)
          have n6_ := qM (yD HB.out)
          clear HO_138000
          clear HO_138001
          clear BK128
          clear BK137
          clear HI0
          clear HK
          clear HB
          have HO_138000 := n0_
          have HO_138001 := n1_
          have BK128 := n2_
          have BK137 := n3_
          have HI0 := n4_
          have HK := n5_
          have HB := n6_
          clear n0_ n1_ n2_ n3_ n4_ n5_ n6_
          refine start_ (n := 10) (S := fun w' => w'.cell? ⟨gb137, 0, none⟩ = some (.slice Ao87 x138000_1.length co87) ∧ w'.cell? ⟨gb137, 1, none⟩ = some ((.slice AqS x138001_1.length cqS))) (ds := [9]) #[false, false, false, false, false, false, false, false, false, false] (by kernel_rfl) rfl rfl ⟨(zC BK137.out 0).trans rfl, (zC BK137.out 1).trans rfl⟩ (fun hHeld => ?_); refine with_tabW spec_l31Book.tab13 spec_l31Book.bits13 (fun HT_ HW_ => ?_)
          generalize w89.drew = w90 at HO_138000 HO_138001 BK128 BK137 HI0 HK HB hHeld ⊢
          refine pure_ (i := 0) (N := some 58) (v := ?_) (a' := ?_) #[true, false, false, false, false, false, false, false, false, false] rfl rfl (any_of HT_.out (by kernel_rfl)) (fun _ _ _ h => h) (Or.inl ⟨by rfl, ?_⟩) ?_ ?_
          rotate_left
          ·intro w'
           go_simp
           with_reducible rfl
          rotate_left
          ·simp only [Act.put, List.setIfInBounds_toArray, List.set_cons_zero, List.set_cons_succ, i64_w, i32_w]
           rfl
          refine pure_ (i := 2) (N := some 60) (v := ?_) (a' := ?_) #[true, false, true, false, false, false, false, false, false, false] rfl rfl (any_of HT_.out (by kernel_rfl)) (fun _ _ _ h => h) (Or.inl ⟨by rfl, ?_⟩) ?_ ?_
          rotate_left
          ·intro w'
           go_simp
           with_reducible rfl
          rotate_left
          ·simp only [Act.put, List.setIfInBounds_toArray, List.set_cons_zero, List.set_cons_succ, i64_w, i32_w]
           rfl
          refine pure_ (i := 4) (N := some 62) (v := ?_) (a' := ?_) #[true, false, true, false, true, false, false, false, false, false] rfl rfl (any_of HT_.out (by kernel_rfl)) (fun _ _ _ h => h) (Or.inl ⟨by rfl, ?_⟩) ?_ ?_
          rotate_left
          ·intro w'
           go_simp
           with_reducible rfl
          rotate_left
          ·simp only [Act.put, List.setIfInBounds_toArray, List.set_cons_zero, List.set_cons_succ, i64_w, i32_w]
           rfl
          refine take_ (i := 1) (N := some 59) (v := ?_) (a' := ?_) #[true, true, true, false, true, false, false, false, false, false] rfl rfl (take_ofW HT_.out HW_.out (by kernel_rfl)) (fun _ _ _ h => h) (Or.inl ⟨by rfl, ?_⟩) hHeld ?_ ?_
          rotate_left
          ·rintro w' ⟨s0, s1⟩
           go_simp
           with_reducible rfl
          rotate_left
          ·simp only [Act.put, List.setIfInBounds_toArray, List.set_cons_zero, List.set_cons_succ, i64_w, i32_w]
           rfl
          refine join_ (σ := Value × Addr) 4 #[true, true, true, true, true, true, false, false, false, false] (fun s_ => [(61, s_.1), (63, .int .i64 t163)]) (fun s_ w' => (w'.cell? ⟨gb137, 0, none⟩ = some (.slice Ao87 x138000_1.length co87) ∧ w'.cell? ⟨gb137, 1, none⟩ = some ((.slice AqS x138001_1.length cqS))) ∧ (Kd.R (Kd.int .i64) 3 w' w.heap.size (fun k_ => some k_ ≠ (.slice Ao87 x138000_1.length co87 : Value).ownBlock ∧ some k_ ≠ ((.slice AqS x138001_1.length cqS) : Value).ownBlock) s_.1 y160) ∧ (Kd.R (Kd.int .i64) 3 w' w.heap.size (fun k_ => some k_ ≠ (s_.1 : Value).ownBlock ∧ some k_ ≠ ((.slice AqS x138001_1.length cqS) : Value).ownBlock) (.slice Ao87 x138000_1.length co87) x138000_1) ∧ (Kd.R (Kd.int .i64) 3 w' w.heap.size (fun k_ => some k_ ≠ (s_.1 : Value).ownBlock ∧ some k_ ≠ (.slice Ao87 x138000_1.length co87 : Value).ownBlock) (.slice AqS x138001_1.length cqS) x138001_1) ∧ (∃ c_, (s_.1 : Value) = .slice (some s_.2) y160.length c_) ∧ (w'.heap[gb128]? = some (.cells #[.slice none 0 0, .slice none 0 0] 37 (0, 0))) ∧ (w'.heap[gb137]? = some (.cells #[.slice Ao87 x138000_1.length co87, (.slice AqS x138001_1.length cqS)] 37 (0, 0))) ∧ (IsS93 w0 w' g s0_0 t164) ∧ (KeepBut w w' g none) ∧ (Below w0.heap.size w0 w')) ?_ ?_
          rotate_left
          ·intro hCont
           refine two_ (i := 3) (j := 5) (Ni := some 61) (Nj := some 63) #[true, true, true, true, true, false, false, false, false, false] #[true, true, true, false, true, true, false, false, false, false] rfl rfl rfl rfl (two_of HT_.out (by kernel_rfl)) (by decide) (by decide) (fun K hK => ?_) (fun K hK => ?_)
           ·skip
            refine Kd.R_lit_step (Kd.int .i64) _ 3 ?hg (N := 61) ?hd (xs := ([(-1), 60001, 5] : List Int)) (inner := [.int .i64 (-1), .int .i64 60001, .int .i64 5]) (ok := fun _ => True) (okp := fun _ => True) ?hr ?hp (fun _ hk => hk) trivial (Below.refl _ _) (Nat.le_refl _) (by simp) ?_; (case hd => rfl); (case hg => rfl); (case hr => first | (go_simp; done) | (go_simp; rfl)); (case hp => exact (Reps.one (show Kd.M (Kd.int .i64) _ _ _ (-1) [.int .i64 (-1)] from rfl) (Reps.one (show Kd.M (Kd.int .i64) _ _ _ 60001 [.int .i64 60001] from rfl) (Reps.one (show Kd.M (Kd.int .i64) _ _ _ 5 [.int .i64 5] from rfl) (Reps.none _ _)))))
            intro v161 w91 ho92 hb hg_ hnew_
            clear hg_ hnew_
            (first | rw [← Ny160.out] at ho92 | (simp only [Int.reduceToNat] at ho92; rw [← Ny160.out] at ho92))
            have n0_ := qM (Kd.R_elder' (by (with_reducible repeat (first | apply qA | apply qN | apply qD)); exact HO_138000.out) (Kd.R_base ho92) hb)
            have n1_ := qM (Kd.R_elder' (by (with_reducible repeat (first | apply qA | apply qN | apply qD)); exact HO_138001.out) (Kd.R_base ho92) hb)
            have n2_ := qM (Kd.R_lower (Kd.R_new' (Kd.R_new' ho92 (Kd.R_lt (by (with_reducible repeat (first | apply qA | apply qN | apply qD)); exact HO_138000.out))) (Kd.R_lt (by (with_reducible repeat (first | apply qA | apply qN | apply qD)); exact HO_138001.out))) (keep_size (w := w) (g := g) (row := none) (by repeat (first | (with_reducible first | exact HK.out | apply KeepBut.set_ | apply keep_drewN | apply keep_drew | apply keep_alloc | refine keep_far ?_ GW128.out _ | refine keep_far ?_ GW137.out _) | exact HK.out))))
            have n3_ := qM (blk_below (g := gb128) (o := .cells #[.slice none 0 0, .slice none 0 0] 37 (0, 0)) (by (with_reducible repeat (first | refine zN ?_ _ | refine zD ?_ | refine zA ?_ _)); exact BK128.out) hb)
            have n4_ := qM (blk_below (g := gb137) (o := .cells #[.slice Ao87 x138000_1.length co87, (.slice AqS x138001_1.length cqS)] 37 (0, 0)) (by (with_reducible repeat (first | refine zN ?_ _ | refine zD ?_ | refine zA ?_ _)); exact BK137.out) hb)
            have n5_ := qM (IsS93.below (by repeat (first | (with_reducible first | exact HI0.out | apply IsS93.alloc | apply IsS93.drewN | apply IsS93.drew | apply IsS93.set_1 | refine IsS93.far ?_ NB0_128.out _ | refine IsS93.far ?_ NB0_137.out _) | exact HI0.out)) hb)
            have n6_ := qM (KeepBut.trans (by repeat (first | (with_reducible first | exact HK.out | apply KeepBut.set_ | apply keep_drewN | apply keep_drew | apply keep_alloc | refine keep_far ?_ GW128.out _ | refine keep_far ?_ GW137.out _) | exact HK.out)) (KeepBut.of_below hb g none) (.inl rfl))
            have n7_ := qM (below_step (by repeat (first | (with_reducible first | exact HB.out | apply yA | apply yN | apply yD | refine yS ?_ (IsS93.ge HI0.out) | refine yS ?_ GE128.out | refine yS ?_ GE137.out) | exact HB.out)) hb)
            clear HO_138000
            clear HO_138001
            clear BK128
            clear BK137
            clear HI0
            clear HK
            clear HB
            have HO_138000 := n0_
            have HO_138001 := n1_
            have HO162 := n2_
            have BK128 := n3_
            have BK137 := n4_
            have HI0 := n5_
            have HK := n6_
            have HB := n7_
            clear n0_ n1_ n2_ n3_ n4_ n5_ n6_ n7_
            clear hb ho92
            obtain ⟨Ao93, co93, eo93⟩ := Kd.R_slice HO162.out
            subst eo93
            obtain ⟨ado93, fo93, _⟩ := Kd.at_int (qR HO162.out).2.2 0 (by decide) (by rw [Ny160.out]; simp)
            cases fo93
            refine hK.out _ _ ⟨(zC BK137.out 0).trans rfl, (zC BK137.out 1).trans rfl⟩ (fun hHeld => ?_)
            clear hK K
            refine norm_ (a' := ?_) ?_ ?_
            rotate_left
            ·show Act.put _ (some 61) _ = _
             simp only [Act.put, List.setIfInBounds_toArray, List.set_cons_zero, List.set_cons_succ, i64_w, i32_w]
             rfl
            refine one_ (i := 5) (N := some 63) #[true, true, true, true, true, true, false, false, false, false] rfl rfl (one_of HT_.out (by kernel_rfl)) (by decide) (fun K hK => ?_)
            refine goes_ Try.func53 (by kernel_rfl) rfl #[.pointer (some ⟨g, 0, none⟩), .int .i64 3] (by rfl) rfl rfl (by (try simp only [List.map_toArray, List.map_cons, List.map_nil]); first | done | rfl | (simp only [List.length_drop, List.length_take]; rfl)) ?_
            with_reducible refine (spec_l30Rd_pick.calls k1 g s0_0 t152 3 t163 t164 w0 _ ?side1 ?side2 A78.out).mono ?_
            (case side1 => repeat (first | (with_reducible first | exact HI0.out | apply IsS93.alloc | apply IsS93.drewN | apply IsS93.drew | apply IsS93.set_1 | refine IsS93.far ?_ NB0_128.out _ | refine IsS93.far ?_ NB0_137.out _) | exact HI0.out))
            (case side2 => repeat (first | (with_reducible first | exact HB.out | apply yA | apply yN | apply yD | refine yS ?_ (IsS93.ge HI0.out) | refine yS ?_ GE128.out | refine yS ?_ GE137.out) | exact HB.out))
            rintro e w94 ⟨rfl, hi, hb, hk⟩
            refine ⟨_, rfl, ?_⟩
            have n0_ := qM (Kd.R_mono (Kd.R_keep (IsS93.apart (show IsS93 w0 _ g s0_0 t152 from by repeat (first | (with_reducible first | exact HI0.out | apply IsS93.alloc | apply IsS93.drewN | apply IsS93.drew | apply IsS93.set_1 | refine IsS93.far ?_ NB0_128.out _ | refine IsS93.far ?_ NB0_137.out _) | exact HI0.out)) (by (with_reducible repeat (first | apply qA | apply qN | apply qD)); exact HO_138000.out) (by decide)) hk (fun _ h => h.2)) (fun _ h => h.1))
            have n1_ := qM (Kd.R_mono (Kd.R_keep (IsS93.apart (show IsS93 w0 _ g s0_0 t152 from by repeat (first | (with_reducible first | exact HI0.out | apply IsS93.alloc | apply IsS93.drewN | apply IsS93.drew | apply IsS93.set_1 | refine IsS93.far ?_ NB0_128.out _ | refine IsS93.far ?_ NB0_137.out _) | exact HI0.out)) (by (with_reducible repeat (first | apply qA | apply qN | apply qD)); exact HO_138001.out) (by decide)) hk (fun _ h => h.2)) (fun _ h => h.1))
            have n2_ := qM (KeepBut.blk hk (g' := gb128) (o := .cells #[.slice none 0 0, .slice none 0 0] 37 (0, 0)) (by (with_reducible repeat (first | refine zN ?_ _ | refine zD ?_ | refine zA ?_ _)); exact BK128.out) NB128_0.out (by simp))
            have n3_ := qM (KeepBut.blk hk (g' := gb137) (o := .cells #[.slice Ao87 x138000_1.length co87, (.slice AqS x138001_1.length cqS)] 37 (0, 0)) (by (with_reducible repeat (first | refine zN ?_ _ | refine zD ?_ | refine zA ?_ _)); exact BK137.out) NB137_0.out (by simp))
            have n4_ := qM (Kd.R_mono (Kd.R_keep (IsS93.apart (show IsS93 w0 _ g s0_0 t152 from by repeat (first | (with_reducible first | exact HI0.out | apply IsS93.alloc | apply IsS93.drewN | apply IsS93.drew | apply IsS93.set_1 | refine IsS93.far ?_ NB0_128.out _ | refine IsS93.far ?_ NB0_137.out _) | exact HI0.out)) (by (with_reducible repeat (first | apply qA | apply qN | apply qD)); exact HO162.out) (by decide)) hk (fun _ h => h.2)) (fun _ h => h.1))
            have n5_ := qM (KeepBut.trans (by repeat (first | (with_reducible first | exact HK.out | apply KeepBut.set_ | apply keep_drewN | apply keep_drew | apply keep_alloc | refine keep_far ?_ GW128.out _ | refine keep_far ?_ GW137.out _) | exact HK.out)) hk (.inl rfl))
            have n6_ := qM (hb)
            have n7_ := qM (hi)
            clear HO_138000
            clear HO_138001
            clear BK128
            clear BK137
            clear HO162
            clear HK
            clear HB
            clear HI0
            have HO_138000 := n0_
            have HO_138001 := n1_
            have BK128 := n2_
            have BK137 := n3_
            have HO162 := n4_
            have HK := n5_
            have HB := n6_
            have HI0 := n7_
            clear n0_ n1_ n2_ n3_ n4_ n5_ n6_ n7_
            (try clear hb)
            (try clear hb2)
            (try clear hk)
            (try clear hi)
            refine hK.out _ _ ⟨(zC BK137.out 0).trans rfl, (zC BK137.out 1).trans rfl⟩ (fun hHeld => ?_)
            clear hK K
            refine norm_ (a' := ?_) ?_ ?_
            rotate_left
            ·show Act.put _ (some 63) _ = _
             simp only [Act.put, List.setIfInBounds_toArray, List.set_cons_zero, List.set_cons_succ, i64_w, i32_w]
             rfl
            exact norm_ (by simp only [putAll, Act.put, List.setIfInBounds_toArray, List.set_cons_zero, List.set_cons_succ]) (hCont (.slice (some ado93) y160.length co93, ado93) _ ⟨hHeld, (by (with_reducible repeat (first | apply qA | apply qN | apply qD)); exact Kd.R_mono HO162.out (fun _ hk => ⟨hk.1.2, hk.2⟩)), (by (with_reducible repeat (first | apply qA | apply qN | apply qD)); exact Kd.R_mono HO_138000.out (fun _ hk => ⟨hk.2, hk.1⟩)), (by (with_reducible repeat (first | apply qA | apply qN | apply qD)); exact Kd.R_mono HO_138001.out (fun _ hk => ⟨hk.2, hk.1⟩)), ⟨_, rfl⟩, (by (with_reducible repeat (first | refine zN ?_ _ | refine zD ?_ | refine zA ?_ _)); exact BK128.out), (by (with_reducible repeat (first | refine zN ?_ _ | refine zD ?_ | refine zA ?_ _)); exact BK137.out), (by repeat (first | (with_reducible first | exact HI0.out | apply IsS93.alloc | apply IsS93.drewN | apply IsS93.drew | apply IsS93.set_1 | refine IsS93.far ?_ NB0_128.out _ | refine IsS93.far ?_ NB0_137.out _) | exact HI0.out)), (by repeat (first | (with_reducible first | exact HK.out | apply KeepBut.set_ | apply keep_drewN | apply keep_drew | apply keep_alloc | refine keep_far ?_ GW128.out _ | refine keep_far ?_ GW137.out _) | exact HK.out)), (by repeat (first | (with_reducible first | exact HB.out | apply yA | apply yN | apply yD | refine yS ?_ (IsS93.ge HI0.out) | refine yS ?_ GE128.out | refine yS ?_ GE137.out) | exact HB.out))⟩)
           ·skip
            refine goes_ Try.func53 (by kernel_rfl) rfl #[.pointer (some ⟨g, 0, none⟩), .int .i64 3] (by rfl) rfl rfl (by (try simp only [List.map_toArray, List.map_cons, List.map_nil]); first | done | rfl | (simp only [List.length_drop, List.length_take]; rfl)) ?_
            with_reducible refine (spec_l30Rd_pick.calls k1 g s0_0 t152 3 t163 t164 w0 _ ?side1 ?side2 A78.out).mono ?_
            (case side1 => repeat (first | (with_reducible first | exact HI0.out | apply IsS93.alloc | apply IsS93.drewN | apply IsS93.drew | apply IsS93.set_1 | refine IsS93.far ?_ NB0_128.out _ | refine IsS93.far ?_ NB0_137.out _) | exact HI0.out))
            (case side2 => repeat (first | (with_reducible first | exact HB.out | apply yA | apply yN | apply yD | refine yS ?_ (IsS93.ge HI0.out) | refine yS ?_ GE128.out | refine yS ?_ GE137.out) | exact HB.out))
            rintro e w91 ⟨rfl, hi, hb, hk⟩
            refine ⟨_, rfl, ?_⟩
            have n0_ := qM (Kd.R_mono (Kd.R_keep (IsS93.apart (show IsS93 w0 _ g s0_0 t152 from by repeat (first | (with_reducible first | exact HI0.out | apply IsS93.alloc | apply IsS93.drewN | apply IsS93.drew | apply IsS93.set_1 | refine IsS93.far ?_ NB0_128.out _ | refine IsS93.far ?_ NB0_137.out _) | exact HI0.out)) (by (with_reducible repeat (first | apply qA | apply qN | apply qD)); exact HO_138000.out) (by decide)) hk (fun _ h => h.2)) (fun _ h => h.1))
            have n1_ := qM (Kd.R_mono (Kd.R_keep (IsS93.apart (show IsS93 w0 _ g s0_0 t152 from by repeat (first | (with_reducible first | exact HI0.out | apply IsS93.alloc | apply IsS93.drewN | apply IsS93.drew | apply IsS93.set_1 | refine IsS93.far ?_ NB0_128.out _ | refine IsS93.far ?_ NB0_137.out _) | exact HI0.out)) (by (with_reducible repeat (first | apply qA | apply qN | apply qD)); exact HO_138001.out) (by decide)) hk (fun _ h => h.2)) (fun _ h => h.1))
            have n2_ := qM (KeepBut.blk hk (g' := gb128) (o := .cells #[.slice none 0 0, .slice none 0 0] 37 (0, 0)) (by (with_reducible repeat (first | refine zN ?_ _ | refine zD ?_ | refine zA ?_ _)); exact BK128.out) NB128_0.out (by simp))
            have n3_ := qM (KeepBut.blk hk (g' := gb137) (o := .cells #[.slice Ao87 x138000_1.length co87, (.slice AqS x138001_1.length cqS)] 37 (0, 0)) (by (with_reducible repeat (first | refine zN ?_ _ | refine zD ?_ | refine zA ?_ _)); exact BK137.out) NB137_0.out (by simp))
            have n4_ := qM (KeepBut.trans (by repeat (first | (with_reducible first | exact HK.out | apply KeepBut.set_ | apply keep_drewN | apply keep_drew | apply keep_alloc | refine keep_far ?_ GW128.out _ | refine keep_far ?_ GW137.out _) | exact HK.out)) hk (.inl rfl))
            have n5_ := qM (hb)
            have n6_ := qM (hi)
            clear HO_138000
            clear HO_138001
            clear BK128
            clear BK137
            clear HK
            clear HB
            clear HI0
            have HO_138000 := n0_
            have HO_138001 := n1_
            have BK128 := n2_
            have BK137 := n3_
            have HK := n4_
            have HB := n5_
            have HI0 := n6_
            clear n0_ n1_ n2_ n3_ n4_ n5_ n6_
            (try clear hb)
            (try clear hb2)
            (try clear hk)
            (try clear hi)
            refine hK.out _ _ ⟨(zC BK137.out 0).trans rfl, (zC BK137.out 1).trans rfl⟩ (fun hHeld => ?_)
            clear hK K
            refine norm_ (a' := ?_) ?_ ?_
            rotate_left
            ·show Act.put _ (some 63) _ = _
             simp only [Act.put, List.setIfInBounds_toArray, List.set_cons_zero, List.set_cons_succ, i64_w, i32_w]
             rfl
            refine one_ (i := 3) (N := some 61) #[true, true, true, true, true, true, false, false, false, false] rfl rfl (one_of HT_.out (by kernel_rfl)) (by decide) (fun K hK => ?_)
            refine Kd.R_lit_step (Kd.int .i64) _ 3 ?hg (N := 61) ?hd (xs := ([(-1), 60001, 5] : List Int)) (inner := [.int .i64 (-1), .int .i64 60001, .int .i64 5]) (ok := fun _ => True) (okp := fun _ => True) ?hr ?hp (fun _ hk => hk) trivial (Below.refl _ _) (Nat.le_refl _) (by simp) ?_; (case hd => rfl); (case hg => rfl); (case hr => first | (go_simp; done) | (go_simp; rfl)); (case hp => exact (Reps.one (show Kd.M (Kd.int .i64) _ _ _ (-1) [.int .i64 (-1)] from rfl) (Reps.one (show Kd.M (Kd.int .i64) _ _ _ 60001 [.int .i64 60001] from rfl) (Reps.one (show Kd.M (Kd.int .i64) _ _ _ 5 [.int .i64 5] from rfl) (Reps.none _ _)))))
            intro v161 w92 ho93 hb hg_ hnew_
            clear hg_ hnew_
            (first | rw [← Ny160.out] at ho93 | (simp only [Int.reduceToNat] at ho93; rw [← Ny160.out] at ho93))
            have n0_ := qM (Kd.R_elder' (by (with_reducible repeat (first | apply qA | apply qN | apply qD)); exact HO_138000.out) (Kd.R_base ho93) hb)
            have n1_ := qM (Kd.R_elder' (by (with_reducible repeat (first | apply qA | apply qN | apply qD)); exact HO_138001.out) (Kd.R_base ho93) hb)
            have n2_ := qM (Kd.R_lower (Kd.R_new' (Kd.R_new' ho93 (Kd.R_lt (by (with_reducible repeat (first | apply qA | apply qN | apply qD)); exact HO_138000.out))) (Kd.R_lt (by (with_reducible repeat (first | apply qA | apply qN | apply qD)); exact HO_138001.out))) (keep_size (w := w) (g := g) (row := none) (by repeat (first | (with_reducible first | exact HK.out | apply KeepBut.set_ | apply keep_drewN | apply keep_drew | apply keep_alloc | refine keep_far ?_ GW128.out _ | refine keep_far ?_ GW137.out _) | exact HK.out))))
            have n3_ := qM (blk_below (g := gb128) (o := .cells #[.slice none 0 0, .slice none 0 0] 37 (0, 0)) (by (with_reducible repeat (first | refine zN ?_ _ | refine zD ?_ | refine zA ?_ _)); exact BK128.out) hb)
            have n4_ := qM (blk_below (g := gb137) (o := .cells #[.slice Ao87 x138000_1.length co87, (.slice AqS x138001_1.length cqS)] 37 (0, 0)) (by (with_reducible repeat (first | refine zN ?_ _ | refine zD ?_ | refine zA ?_ _)); exact BK137.out) hb)
            have n5_ := qM (IsS93.below (by repeat (first | (with_reducible first | exact HI0.out | apply IsS93.alloc | apply IsS93.drewN | apply IsS93.drew | apply IsS93.set_1 | refine IsS93.far ?_ NB0_128.out _ | refine IsS93.far ?_ NB0_137.out _) | exact HI0.out)) hb)
            have n6_ := qM (KeepBut.trans (by repeat (first | (with_reducible first | exact HK.out | apply KeepBut.set_ | apply keep_drewN | apply keep_drew | apply keep_alloc | refine keep_far ?_ GW128.out _ | refine keep_far ?_ GW137.out _) | exact HK.out)) (KeepBut.of_below hb g none) (.inl rfl))
            have n7_ := qM (below_step (by repeat (first | (with_reducible first | exact HB.out | apply yA | apply yN | apply yD | refine yS ?_ (IsS93.ge HI0.out) | refine yS ?_ GE128.out | refine yS ?_ GE137.out) | exact HB.out)) hb)
            clear HO_138000
            clear HO_138001
            clear BK128
            clear BK137
            clear HI0
            clear HK
            clear HB
            have HO_138000 := n0_
            have HO_138001 := n1_
            have HO162 := n2_
            have BK128 := n3_
            have BK137 := n4_
            have HI0 := n5_
            have HK := n6_
            have HB := n7_
            clear n0_ n1_ n2_ n3_ n4_ n5_ n6_ n7_
            clear hb ho93
            obtain ⟨Ao94, co94, eo94⟩ := Kd.R_slice HO162.out
            subst eo94
            obtain ⟨ado94, fo94, _⟩ := Kd.at_int (qR HO162.out).2.2 0 (by decide) (by rw [Ny160.out]; simp)
            cases fo94
            refine hK.out _ _ ⟨(zC BK137.out 0).trans rfl, (zC BK137.out 1).trans rfl⟩ (fun hHeld => ?_)
            clear hK K
            refine norm_ (a' := ?_) ?_ ?_
            rotate_left
            ·show Act.put _ (some 61) _ = _
             simp only [Act.put, List.setIfInBounds_toArray, List.set_cons_zero, List.set_cons_succ, i64_w, i32_w]
             rfl
            exact norm_ (by simp only [putAll, Act.put, List.setIfInBounds_toArray, List.set_cons_zero, List.set_cons_succ]) (hCont (.slice (some ado94) y160.length co94, ado94) _ ⟨hHeld, (by (with_reducible repeat (first | apply qA | apply qN | apply qD)); exact Kd.R_mono HO162.out (fun _ hk => ⟨hk.1.2, hk.2⟩)), (by (with_reducible repeat (first | apply qA | apply qN | apply qD)); exact Kd.R_mono HO_138000.out (fun _ hk => ⟨hk.2, hk.1⟩)), (by (with_reducible repeat (first | apply qA | apply qN | apply qD)); exact Kd.R_mono HO_138001.out (fun _ hk => ⟨hk.2, hk.1⟩)), ⟨_, rfl⟩, (by (with_reducible repeat (first | refine zN ?_ _ | refine zD ?_ | refine zA ?_ _)); exact BK128.out), (by (with_reducible repeat (first | refine zN ?_ _ | refine zD ?_ | refine zA ?_ _)); exact BK137.out), (by repeat (first | (with_reducible first | exact HI0.out | apply IsS93.alloc | apply IsS93.drewN | apply IsS93.drew | apply IsS93.set_1 | refine IsS93.far ?_ NB0_128.out _ | refine IsS93.far ?_ NB0_137.out _) | exact HI0.out)), (by repeat (first | (with_reducible first | exact HK.out | apply KeepBut.set_ | apply keep_drewN | apply keep_drew | apply keep_alloc | refine keep_far ?_ GW128.out _ | refine keep_far ?_ GW137.out _) | exact HK.out)), (by repeat (first | (with_reducible first | exact HB.out | apply yA | apply yN | apply yD | refine yS ?_ (IsS93.ge HI0.out) | refine yS ?_ GE128.out | refine yS ?_ GE137.out) | exact HB.out))⟩)
          rintro ⟨v161, adz_v161⟩ w95 ⟨hS_, h0_, h1_, h2_, h3_, h4_, h5_, h6_, h7_, h8_⟩
          have n0_ : Aside0 (Kd.R (Kd.int .i64) 3 w95 w.heap.size (fun k_ => some k_ ≠ (.slice Ao87 x138000_1.length co87 : Value).ownBlock ∧ some k_ ≠ ((.slice AqS x138001_1.length cqS) : Value).ownBlock) v161 y160) := ⟨h0_⟩
          have n1_ : Aside0 (Kd.R (Kd.int .i64) 3 w95 w.heap.size (fun k_ => some k_ ≠ (v161 : Value).ownBlock ∧ some k_ ≠ ((.slice AqS x138001_1.length cqS) : Value).ownBlock) (.slice Ao87 x138000_1.length co87) x138000_1) := ⟨h1_⟩
          have n2_ : Aside0 (Kd.R (Kd.int .i64) 3 w95 w.heap.size (fun k_ => some k_ ≠ (v161 : Value).ownBlock ∧ some k_ ≠ (.slice Ao87 x138000_1.length co87 : Value).ownBlock) (.slice AqS x138001_1.length cqS) x138001_1) := ⟨h2_⟩
          have n3_ : Aside0 (∃ c_, (v161 : Value) = .slice (some adz_v161) y160.length c_) := ⟨h3_⟩
          have n4_ : Aside0 (w95.heap[gb128]? = some (.cells #[.slice none 0 0, .slice none 0 0] 37 (0, 0))) := ⟨h4_⟩
          have n5_ : Aside0 (w95.heap[gb137]? = some (.cells #[.slice Ao87 x138000_1.length co87, (.slice AqS x138001_1.length cqS)] 37 (0, 0))) := ⟨h5_⟩
          have n6_ : Aside0 (IsS93 w0 w95 g s0_0 t164) := ⟨h6_⟩
          have n7_ : Aside0 (KeepBut w w95 g none) := ⟨h7_⟩
          have n8_ : Aside0 (Below w0.heap.size w0 w95) := ⟨h8_⟩
          clear HO_138000
          clear HO_138001
          clear BK128
          clear BK137
          clear HI0
          clear HK
          clear HB
          clear h0_ h1_ h2_ h3_ h4_ h5_ h6_ h7_ h8_
          have HO162 := n0_
          have HO_138000 := n1_
          have HO_138001 := n2_
          have HA_HO162 := n3_
          have BK128 := n4_
          have BK137 := n5_
          have HI0 := n6_
          have HK := n7_
          have HB := n8_
          clear n0_ n1_ n2_ n3_ n4_ n5_ n6_ n7_ n8_
          have hHeld : w95.cell? ⟨gb137, 0, none⟩ = some (.slice Ao87 x138000_1.length co87) ∧ w95.cell? ⟨gb137, 1, none⟩ = some ((.slice AqS x138001_1.length cqS)) := hS_
          obtain ⟨co96, eo96⟩ := HA_HO162.out
          clear HA_HO162
          subst eo96
          have p83 : 0 ≤ (t149 : Int) := of_decide_eq_true (by first | (with_reducible assumption) | assumption)
          have q83 : (t149 : Int) < ((x138001_1.length : Int) : Int) := of_decide_eq_true (by first | (with_reducible assumption) | assumption)
          obtain ⟨go83, co83, eo83, gb83, gl83, cl83, HG83⟩ := Kd.R_form HO_138001.out (by omega)
          (first | cases eo83 | (injection eo83 with ea_ en_ ec_; (first | subst ea_ | (injection ea_ with ea_; subst ea_)); subst ec_; clear en_))
          have GB83 := qM gb83
          have GG83 := qM HG83
          clear gb83 gl83 HG83
          obtain ⟨hx83_0, hf83_0⟩ := Kd.R_celln 0 HO_138001.out (t149 : Int) p83 q83
          replace p83 := eq_true p83
          replace q83 := eq_true q83
          have HN0_go83 := qM (show g ≠ go83 from by have h_ := IsS93.own_ne HI0.out HO_138001.out (by decide); intro e_; exact h_ (by rw [e_]; rfl))
          have HP97 := Kd.R_putn HO_138001.out (t149 : Int) (rd y160 t163)
          rw [← Ny166.out] at HP97
          have HQ97 := qM HP97
          clear HP97
          refine norm_ (a' := ?_) ?_ ?_
          rotate_left
          ·simp only [putAll, Act.put, List.setIfInBounds_toArray, List.set_cons_zero, List.set_cons_succ]
           rfl
          refine pure_ (i := 6) (N := some 64) (v := ?_) (a' := ?_) #[true, true, true, true, true, true, true, false, false, false] rfl rfl (any_of HT_.out (by kernel_rfl)) (fun _ _ _ h => h) (Or.inl ⟨by rfl, ?_⟩) ?_ ?_
          rotate_left
          ·intro w'
           go_simp
           with_reducible rfl
          rotate_left
          ·simp only [Act.put, List.setIfInBounds_toArray, List.set_cons_zero, List.set_cons_succ, i64_w, i32_w]
           rfl
          refine one_ (i := 7) (N := some 65) #[true, true, true, true, true, true, true, true, false, false] rfl rfl (one_of HT_.out (by kernel_rfl)) (by decide) (fun K hK => ?_)
          (have p165 : 0 ≤ (t163 : Int) := of_decide_eq_true (by first | (with_reducible assumption) | assumption); have q165 : t163 < (y160.length : Int) := of_decide_eq_true (by first | (with_reducible assumption) | assumption); obtain ⟨ad165, e165, hx165_0⟩ := Kd.at_int (qR HO162.out).2.2 t163 p165 q165; obtain rfl : adz_v161 = ad165 := (by injection e165))
          refine value_ (w1 := ?_) (v := ?_) (by rfl) rfl ?_ ?_
          rotate_left 2
          ·go_simp
           constructor
           ·rfl
           ·rfl
          clear hx165_0
          refine hK.out _ _ ⟨(zC BK137.out 0).trans rfl, (zC BK137.out 1).trans rfl⟩ (fun hHeld => ?_)
          clear hK K
          refine norm_ (a' := ?_) ?_ ?_
          rotate_left
          ·show Act.put _ (some 65) _ = _
           simp only [Act.put, List.setIfInBounds_toArray, List.set_cons_zero, List.set_cons_succ, i64_w, i32_w]
           rfl
          refine pure_ (i := 8) (N := some 66) (v := ?_) (a' := ?_) #[true, true, true, true, true, true, true, true, true, false] rfl rfl (any_of HT_.out (by kernel_rfl)) (fun _ _ _ h => h) (Or.inl ⟨by rfl, ?_⟩) ?_ ?_
          rotate_left
          ·intro w'
           go_simp
           with_reducible rfl
          rotate_left
          ·simp only [Act.put, List.setIfInBounds_toArray, List.set_cons_zero, List.set_cons_succ, i64_w, i32_w]
           rfl
          refine last_ (i := 9) (N := none) #[true, true, true, true, true, true, true, true, true, true] rfl rfl (one_of HT_.out (by kernel_rfl)) (by decide) (fun K hK => ?_)
          refine skip_ (w1 := ?_) (by rfl) rfl ?_ ?_
          rotate_left
          ·go_simp
           rfl
          refine hK.out _ _ ?_
          clear hK K
          refine done_ (done_of HT_.out (by kernel_rfl)) ?_
          have n0_ : Aside0 (Kd.R (Kd.int .i64) 3 (w95.setCell ⟨go83, (t149 : Int).toNat, none⟩ (.int .i64 (rd y160 t163))) w.heap.size (fun k_ => some k_ ≠ (.slice (some ⟨go83, 0, none⟩) x138001_1.length cqS : Value).ownBlock ∧ some k_ ≠ (.slice (some adz_v161) y160.length co96 : Value).ownBlock) (.slice Ao87 x138000_1.length co87) x138000_1) := ⟨by (with_reducible repeat (first | apply qA | apply qN | apply qD)); exact Kd.R_mono (qF (p := ⟨go83, (t149 : Int).toNat, none⟩) (Kd.R_mono HO_138000.out (fun k_ hk => (⟨hk, fun e_ => hk.2 (by rw [e_]; rfl)⟩ : _ ∧ k_ ≠ go83))) (fun _ hk => hk.2) (.int .i64 (rd y160 t163))) (fun _ hk => ⟨hk.1.2, hk.1.1⟩)⟩
          have n1_ : Aside0 (Kd.R (Kd.int .i64) 3 (w95.setCell ⟨go83, (t149 : Int).toNat, none⟩ (.int .i64 (rd y160 t163))) w.heap.size (fun k_ => some k_ ≠ (.slice Ao87 x138000_1.length co87 : Value).ownBlock ∧ some k_ ≠ (.slice (some adz_v161) y160.length co96 : Value).ownBlock) (.slice (some ⟨go83, 0, none⟩) x138001_1.length cqS) y166) := ⟨by (with_reducible repeat (first | apply qA | apply qN | apply qD)); exact Kd.R_mono HQ97.out (fun _ hk => ⟨hk.2, hk.1⟩)⟩
          have n2_ : Aside0 (Kd.R (Kd.int .i64) 3 (w95.setCell ⟨go83, (t149 : Int).toNat, none⟩ (.int .i64 (rd y160 t163))) w.heap.size (fun k_ => some k_ ≠ (.slice Ao87 x138000_1.length co87 : Value).ownBlock ∧ some k_ ≠ (.slice (some ⟨go83, 0, none⟩) x138001_1.length cqS : Value).ownBlock) (.slice (some adz_v161) y160.length co96) y160) := ⟨by (with_reducible repeat (first | apply qA | apply qN | apply qD)); exact Kd.R_mono (qF (p := ⟨go83, (t149 : Int).toNat, none⟩) (Kd.R_mono HO162.out (fun k_ hk => (⟨hk, fun e_ => hk.2 (by rw [e_]; rfl)⟩ : _ ∧ k_ ≠ go83))) (fun _ hk => hk.2) (.int .i64 (rd y160 t163))) (fun _ hk => ⟨hk.1.1, hk.1.2⟩)⟩
          have n3_ : Aside0 ((w95.setCell ⟨go83, (t149 : Int).toNat, none⟩ (.int .i64 (rd y160 t163))).heap[gb128]? = some (.cells #[.slice none 0 0, .slice none 0 0] 37 (0, 0))) := ⟨by (with_reducible repeat (first | refine zN ?_ _ | refine zD ?_ | refine zA ?_ _)); refine blk_far ?_ (by have h_ := Kd.R_ne HO_138001.out BK128.out (by decide); intro e_; exact h_ (by rw [e_]; rfl)) _; (with_reducible repeat (first | refine zN ?_ _ | refine zD ?_ | refine zA ?_ _)); exact BK128.out⟩
          have n4_ : Aside0 ((w95.setCell ⟨go83, (t149 : Int).toNat, none⟩ (.int .i64 (rd y160 t163))).heap[gb137]? = some (.cells #[.slice Ao87 x138000_1.length co87, .slice (some ⟨go83, 0, none⟩) x138001_1.length cqS] 37 (0, 0))) := ⟨by (with_reducible repeat (first | refine zN ?_ _ | refine zD ?_ | refine zA ?_ _)); refine blk_far ?_ (by have h_ := Kd.R_ne HO_138001.out BK137.out (by decide); intro e_; exact h_ (by rw [e_]; rfl)) _; (with_reducible repeat (first | refine zN ?_ _ | refine zD ?_ | refine zA ?_ _)); exact BK137.out⟩
          have n5_ : Aside0 (IsS93 w0 (w95.setCell ⟨go83, (t149 : Int).toNat, none⟩ (.int .i64 (rd y160 t163))) g s0_0 t164) := ⟨by repeat (first | (with_reducible first | exact HI0.out | apply IsS93.alloc | apply IsS93.drewN | apply IsS93.drew | apply IsS93.set_1 | refine IsS93.far ?_ HN0_go83.out _ | refine IsS93.far ?_ NB0_128.out _ | refine IsS93.far ?_ NB0_137.out _) | exact HI0.out)⟩
          have n6_ : Aside0 (KeepBut w (w95.setCell ⟨go83, (t149 : Int).toNat, none⟩ (.int .i64 (rd y160 t163))) g none) := ⟨by repeat (first | (with_reducible first | exact HK.out | apply KeepBut.set_ | apply keep_drewN | apply keep_drew | apply keep_alloc | refine keep_far ?_ GB83.out _ | refine keep_far ?_ GW128.out _ | refine keep_far ?_ GW137.out _) | exact HK.out)⟩
          have n7_ : Aside0 (Below w0.heap.size w0 (w95.setCell ⟨go83, (t149 : Int).toNat, none⟩ (.int .i64 (rd y160 t163)))) := ⟨by repeat (first | (with_reducible first | exact HB.out | apply yA | apply yN | apply yD | refine yS ?_ (Nat.le_trans HL.out GB83.out) | refine yS ?_ (IsS93.ge HI0.out) | refine yS ?_ GE128.out | refine yS ?_ GE137.out) | exact HB.out)⟩
          (try clear HO_138000)
          (try clear HO_138001)
          (try clear HO162)
          (try clear BK128)
          (try clear BK137)
          (try clear HI0)
          (try clear HK)
          (try clear HB)
          generalize (w95.setCell ⟨go83, (t149 : Int).toNat, none⟩ (.int .i64 (rd y160 t163))) = w98 at n0_ n1_ n2_ n3_ n4_ n5_ n6_ n7_ ⊢
          have HO_138000 := n0_
          have HO_138001 := n1_
          have HO162 := n2_
          have BK128 := n3_
          have BK137 := n4_
          have HI0 := n5_
          have HK := n6_
          have HB := n7_
          clear n0_ n1_ n2_ n3_ n4_ n5_ n6_ n7_
          have hcz99_0 : w98.cell? ⟨gb137, 0, none⟩ = some (.slice Ao87 x138000_1.length co87) := (zC BK137.out 0).trans rfl
          have hcz99_1 : w98.cell? ⟨gb137, 1, none⟩ = some (.slice (some ⟨go83, 0, none⟩) x138001_1.length cqS) := (zC BK137.out 1).trans rfl
          have hfz99_0 := zF BK137.out 0
          have hfz99_1 := zF BK137.out 1
          have hnb100 := NB128_0.out
          have hnc100 := NB0_128.out
          have hcz101_0 : w98.cell? ⟨gb128, 0, none⟩ = some (.slice none 0 0) := (zC BK128.out 0).trans rfl
          have hcz101_1 : w98.cell? ⟨gb128, 1, none⟩ = some (.slice none 0 0) := (zC BK128.out 1).trans rfl
          have hfz101_0 := zF BK128.out 0
          have hfz101_1 := zF BK128.out 1
          try go_wp2
          refine bodyPost_ret (results_cell_row rfl _ _ gb128 37 #[.slice Ao87 x138000_1.length co87, .slice (some ⟨go83, 0, none⟩) x138001_1.length cqS] (0, 0) _ rfl (by (with_reducible repeat (first | refine zN ?_ _ | refine zD ?_ | refine zA ?_ _)); refine blk_put (cs := #[.slice Ao87 x138000_1.length co87, .slice none 0 0]) ?_ 1 _ rfl; (with_reducible repeat (first | refine zN ?_ _ | refine zD ?_ | refine zA ?_ _)); refine blk_put (cs := #[.slice none 0 0, .slice none 0 0]) ?_ 0 _ rfl; (with_reducible repeat (first | refine zN ?_ _ | refine zD ?_ | refine zA ?_ _)); exact BK128.out) Try.underlying37 rfl (by kernel_rfl)) rfl ?_
          exact ⟨_, _, by first | rfl | (simp [errW_none, errW_some] <;> rfl) | (simp [*, errW_none, errW_some] <;> rfl), by (with_reducible repeat (first | apply qA | apply qN | apply qD)); exact Kd.R_mono (qF (p := ⟨gb128, 1, none⟩) (qF (p := ⟨gb128, 0, none⟩) (Kd.R_types HO_138000.out BK128.out (by decide)) (fun _ hk => hk.2) (.slice Ao87 x138000_1.length co87)) (fun _ hk => hk.2) (.slice (some ⟨go83, 0, none⟩) x138001_1.length cqS)) (fun _ hk => hk.1.1), by (with_reducible repeat (first | apply qA | apply qN | apply qD)); exact Kd.R_mono (qF (p := ⟨gb128, 1, none⟩) (qF (p := ⟨gb128, 0, none⟩) (Kd.R_types HO_138001.out BK128.out (by decide)) (fun _ hk => hk.2) (.slice Ao87 x138000_1.length co87)) (fun _ hk => hk.2) (.slice (some ⟨go83, 0, none⟩) x138001_1.length cqS)) (fun _ hk => hk.1.1), by repeat (first | (with_reducible first | exact HI0.out | apply IsS93.alloc | apply IsS93.drewN | apply IsS93.drew | apply IsS93.set_1 | refine IsS93.far ?_ NB0_128.out _ | refine IsS93.far ?_ NB0_137.out _) | exact HI0.out), by repeat (first | (with_reducible first | exact HB.out | apply yA | apply yN | apply yD | refine yS ?_ (IsS93.ge HI0.out) | refine yS ?_ GE128.out | refine yS ?_ GE137.out) | exact HB.out), by repeat (first | (with_reducible first | exact HK.out | apply KeepBut.set_ | apply keep_drewN | apply keep_drew | apply keep_alloc | refine keep_far ?_ GW128.out _ | refine keep_far ?_ GW137.out _) | exact HK.out)⟩
         ·rw [if_neg c82] at H
          exact absurd H (by simp)
        ·rw [if_neg c81] at H
         exact absurd H (by simp)
       ·rw [if_neg c80] at H
        exact absurd H (by simp)
      ·rw [if_neg c79] at H
       exact absurd H (by simp)
     ·rw [if_neg c77] at H
      have c77b0 : (t151 == 1) = false := beq_eq_false_iff_ne.mpr c77
      have c77b1 : (t151 != 1) = true := bne_iff_ne.mpr c77
      by_cases c102 : t151 = 2
      ·rw [if_pos c102] at H
       have c102b0 : (t151 == 2) = true := beq_iff_eq.mpr c102
       have c102b1 : (t151 != 2) = false := bne_eq_false_iff_eq.mpr c102
       clear c102
       by_cases c103 : x138001_1.length < 17592186044416
       ·rw [if_pos c103] at H
        have LMc103 := qM c103
        clear c103
        obtain ⟨y167, hy167⟩ : ∃ y_ : List Int, y_ = (x138001_1 ++ [0]) := ⟨_, rfl⟩
        replace H : (some (x138000_1, y167, t152)) = some (r1, r2, r3) := by first | (rw [hy167]; with_reducible exact H) | (have H2_ := (Option.bind_some _ _).symm.trans H; rw [hy167]; with_reducible exact H2_) | (have H2_ := (Option.bind_some _ _).symm.trans H; with_reducible exact H2_) | with_reducible exact H | (rw [hy167]; exact H) | exact H
        have Ny167 := qM hy167
        clear hy167
        simp only [Option.some.injEq, Prod.mk.injEq] at H
        obtain ⟨rfl, rfl, rfl⟩ := H
        have hnb104 := NB137_128.out
        have hnc104 := NB128_137.out
        have hnb105 := NB137_0.out
        have hnc105 := NB0_137.out
        have hcz106_0 : wr.cell? ⟨gb137, 0, none⟩ = some (u138000) := (zC BK137.out 0).trans rfl
        have hcz106_1 : wr.cell? ⟨gb137, 1, none⟩ = some ((.slice AqS x138001_1.length cqS)) := (zC BK137.out 1).trans rfl
        have hfz106_0 := zF BK137.out 0
        have hfz106_1 := zF BK137.out 1
        obtain ⟨Ao107, co107, eo107⟩ := Kd.R_slice HO_138000.out
        subst eo107
        go_wp2_with (first | ((with_reducible refine gate_callee (f := 53) rfl ?_); refine goesL_ (some 42) rfl rfl Try.func53 (by kernel_rfl) rfl #[.pointer (some ⟨g, 0, none⟩), .int .i64 (x138000_1.length : Int)] rfl (by (try simp only [List.map_toArray, List.map_cons, List.map_nil]); first | done | rfl | (simp only [List.length_drop, List.length_take]; rfl)) ?_; (with_reducible refine (spec_l30Rd_pick.calls k1 g s0_0 x1001_1 (x138000_1.length : Int) t149 t150 w0 _ ?side1 ?side2 A49.out).mono ?_); (case side1 => repeat (first | (with_reducible first | exact HI0.out | apply IsS93.alloc | apply IsS93.drewN | apply IsS93.drew | apply IsS93.set_1 | refine IsS93.far ?_ NB0_128.out _ | refine IsS93.far ?_ NB0_137.out _) | exact HI0.out)); (case side2 => repeat (first | (with_reducible first | exact HB.out | apply yA | apply yN | apply yD | refine yS ?_ (IsS93.ge HI0.out) | refine yS ?_ GE128.out | refine yS ?_ GE137.out) | exact HB.out)); rintro e w108 ⟨rfl, hi, hb, hk⟩; refine ⟨_, rfl, ?_⟩; have n0_ := qM (Kd.R_mono (Kd.R_keep (IsS93.apart (show IsS93 w0 _ g s0_0 x1001_1 from by repeat (first | (with_reducible first | exact HI0.out | apply IsS93.alloc | apply IsS93.drewN | apply IsS93.drew | apply IsS93.set_1 | refine IsS93.far ?_ NB0_128.out _ | refine IsS93.far ?_ NB0_137.out _) | exact HI0.out)) (by (with_reducible repeat (first | apply qA | apply qN | apply qD)); exact HO_138000.out) (by decide)) hk (fun _ h => h.2)) (fun _ h => h.1)); have n1_ := qM (Kd.R_mono (Kd.R_keep (IsS93.apart (show IsS93 w0 _ g s0_0 x1001_1 from by repeat (first | (with_reducible first | exact HI0.out | apply IsS93.alloc | apply IsS93.drewN | apply IsS93.drew | apply IsS93.set_1 | refine IsS93.far ?_ NB0_128.out _ | refine IsS93.far ?_ NB0_137.out _) | exact HI0.out)) (by (with_reducible repeat (first | apply qA | apply qN | apply qD)); exact HO_138001.out) (by decide)) hk (fun _ h => h.2)) (fun _ h => h.1)); have n2_ := qM (KeepBut.blk hk (g' := gb128) (o := .cells #[.slice none 0 0, .slice none 0 0] 37 (0, 0)) (by (with_reducible repeat (first | refine zN ?_ _ | refine zD ?_ | refine zA ?_ _)); exact BK128.out) NB128_0.out (by simp)); have n3_ := qM (KeepBut.blk hk (g' := gb137) (o := .cells #[.slice Ao107 x138000_1.length co107, (.slice AqS x138001_1.length cqS)] 37 (0, 0)) (by (with_reducible repeat (first | refine zN ?_ _ | refine zD ?_ | refine zA ?_ _)); exact BK137.out) NB137_0.out (by simp)); have n4_ := qM (KeepBut.trans (by repeat (first | (with_reducible first | exact HK.out | apply KeepBut.set_ | apply keep_drewN | apply keep_drew | apply keep_alloc | refine keep_far ?_ GW128.out _ | refine keep_far ?_ GW137.out _) | exact HK.out)) hk (.inl rfl)); have n5_ := qM (hb); have n6_ := qM (hi); clear HO_138000; clear HO_138001; clear BK128; clear BK137; clear HK; clear HB; clear HI0; have HO_138000 := n0_; have HO_138001 := n1_; have BK128 := n2_; have BK137 := n3_; have HK := n4_; have HB := n5_; have HI0 := n6_; clear n0_ n1_ n2_ n3_ n4_ n5_ n6_; (try clear hb); (try clear hb2); (try clear hk); (try clear hi)) | ((with_reducible refine gate_callee (f := 53) rfl ?_); refine goesL_ (some 44) rfl rfl Try.func53 (by kernel_rfl) rfl #[.pointer (some ⟨g, 0, none⟩), .int .i64 16] rfl (by (try simp only [List.map_toArray, List.map_cons, List.map_nil]); first | done | rfl | (simp only [List.length_drop, List.length_take]; rfl)) ?_; (with_reducible refine (spec_l30Rd_pick.calls k1 g s0_0 t150 16 t151 t152 w0 _ ?side1 ?side2 A50.out).mono ?_); (case side1 => repeat (first | (with_reducible first | exact HI0.out | apply IsS93.alloc | apply IsS93.drewN | apply IsS93.drew | apply IsS93.set_1 | refine IsS93.far ?_ NB0_128.out _ | refine IsS93.far ?_ NB0_137.out _) | exact HI0.out)); (case side2 => repeat (first | (with_reducible first | exact HB.out | apply yA | apply yN | apply yD | refine yS ?_ (IsS93.ge HI0.out) | refine yS ?_ GE128.out | refine yS ?_ GE137.out) | exact HB.out)); rintro e w109 ⟨rfl, hi, hb, hk⟩; refine ⟨_, rfl, ?_⟩; have n0_ := qM (Kd.R_mono (Kd.R_keep (IsS93.apart (show IsS93 w0 _ g s0_0 t150 from by repeat (first | (with_reducible first | exact HI0.out | apply IsS93.alloc | apply IsS93.drewN | apply IsS93.drew | apply IsS93.set_1 | refine IsS93.far ?_ NB0_128.out _ | refine IsS93.far ?_ NB0_137.out _) | exact HI0.out)) (by (with_reducible repeat (first | apply qA | apply qN | apply qD)); exact HO_138000.out) (by decide)) hk (fun _ h => h.2)) (fun _ h => h.1)); have n1_ := qM (Kd.R_mono (Kd.R_keep (IsS93.apart (show IsS93 w0 _ g s0_0 t150 from by repeat (first | (with_reducible first | exact HI0.out | apply IsS93.alloc | apply IsS93.drewN | apply IsS93.drew | apply IsS93.set_1 | refine IsS93.far ?_ NB0_128.out _ | refine IsS93.far ?_ NB0_137.out _) | exact HI0.out)) (by (with_reducible repeat (first | apply qA | apply qN | apply qD)); exact HO_138001.out) (by decide)) hk (fun _ h => h.2)) (fun _ h => h.1)); have n2_ := qM (KeepBut.blk hk (g' := gb128) (o := .cells #[.slice none 0 0, .slice none 0 0] 37 (0, 0)) (by (with_reducible repeat (first | refine zN ?_ _ | refine zD ?_ | refine zA ?_ _)); exact BK128.out) NB128_0.out (by simp)); have n3_ := qM (KeepBut.blk hk (g' := gb137) (o := .cells #[.slice Ao107 x138000_1.length co107, (.slice AqS x138001_1.length cqS)] 37 (0, 0)) (by (with_reducible repeat (first | refine zN ?_ _ | refine zD ?_ | refine zA ?_ _)); exact BK137.out) NB137_0.out (by simp)); have n4_ := qM (KeepBut.trans (by repeat (first | (with_reducible first | exact HK.out | apply KeepBut.set_ | apply keep_drewN | apply keep_drew | apply keep_alloc | refine keep_far ?_ GW128.out _ | refine keep_far ?_ GW137.out _) | exact HK.out)) hk (.inl rfl)); have n5_ := qM (hb); have n6_ := qM (hi); clear HO_138000; clear HO_138001; clear BK128; clear BK137; clear HK; clear HB; clear HI0; have HO_138000 := n0_; have HO_138001 := n1_; have BK128 := n2_; have BK137 := n3_; have HK := n4_; have HB := n5_; have HI0 := n6_; clear n0_ n1_ n2_ n3_ n4_ n5_ n6_; (try clear hb); (try clear hb2); (try clear hk); (try clear hi); have hcz110_0 : w109.cell? ⟨gb137, 0, none⟩ = some (.slice Ao107 x138000_1.length co107) := (zC BK137.out 0).trans rfl; have hcz110_1 : w109.cell? ⟨gb137, 1, none⟩ = some ((.slice AqS x138001_1.length cqS)) := (zC BK137.out 1).trans rfl; have hfz110_0 := zF BK137.out 0; have hfz110_1 := zF BK137.out 1) | ((with_reducible refine gate_builtin (b := .append) (xs := #[.tmp 70, .tmp 71]) rfl ?_); at_builtin; refine Kd.R_append (Kd.int .i64) w.heap.size rfl (.tmp 70) (.tmp 71) 35 3 (.int .i64 0) 8 rfl Try.underlying35 info3 rfl (by decide) (by omega) (.slice AqS x138001_1.length cqS) x138001_1 0 [.int .i64 0] (fun k_ => some k_ ≠ (.slice Ao107 x138000_1.length co107 : Value).ownBlock) (fun _ => False) rfl rfl ?aP (fun _ hk => hk.elim) ?aF ?aO (Below.refl _ _) ?aS ?aL ?_; (case aP => exact rfl); (case aF => exact (fun k_ hk => Kd.fresh' (Kd.R_lt (by (with_reducible repeat (first | apply qA | apply qN | apply qD)); exact HO_138000.out)) k_ hk)); (case aO => exact (by (with_reducible repeat (first | apply qA | apply qN | apply qD)); exact HO_138001.out)); (case aS => exact (keep_size (w := w) (g := g) (row := none) (by repeat (first | (with_reducible first | exact HK.out | apply KeepBut.set_ | apply keep_drewN | apply keep_drew | apply keep_alloc | refine keep_far ?_ GW128.out _ | refine keep_far ?_ GW137.out _) | exact HK.out)))); (case aL => have := LMc103.out; omega); intro v168 w111 ho hb hg hat; rw [← Ny167.out] at ho; have n0_ := qM (Kd.R_after (ok := (fun _ => True)) (by (with_reducible repeat (first | apply qA | apply qN | apply qD)); exact Kd.R_mono HO_138000.out (fun _ hk => ⟨trivial, hk⟩)) hg hat); have n1_ := qM (blk_grown (g := gb128) (o := .cells #[.slice none 0 0, .slice none 0 0] 37 (0, 0)) (by (with_reducible repeat (first | refine zN ?_ _ | refine zD ?_ | refine zA ?_ _)); exact BK128.out) hg (Kd.R_ne HO_138001.out BK128.out (by decide))); have n2_ := qM (blk_grown (g := gb137) (o := .cells #[.slice Ao107 x138000_1.length co107, (.slice AqS x138001_1.length cqS)] 37 (0, 0)) (by (with_reducible repeat (first | refine zN ?_ _ | refine zD ?_ | refine zA ?_ _)); exact BK137.out) hg (Kd.R_ne HO_138001.out BK137.out (by decide))); have n3_ := qM (IsS93.grown (by repeat (first | (with_reducible first | exact HI0.out | apply IsS93.alloc | apply IsS93.drewN | apply IsS93.drew | apply IsS93.set_1 | refine IsS93.far ?_ NB0_128.out _ | refine IsS93.far ?_ NB0_137.out _) | exact HI0.out)) hg (IsS93.own_ne HI0.out HO_138001.out (by decide))); have n4_ := qM (below_weaken (by repeat (first | (with_reducible first | exact HB.out | apply yA | apply yN | apply yD | refine yS ?_ (IsS93.ge HI0.out) | refine yS ?_ GE128.out | refine yS ?_ GE137.out) | exact HB.out)) HL.out hb); have n5_ := qM (KeepBut.trans (by repeat (first | (with_reducible first | exact HK.out | apply KeepBut.set_ | apply keep_drewN | apply keep_drew | apply keep_alloc | refine keep_far ?_ GW128.out _ | refine keep_far ?_ GW137.out _) | exact HK.out)) (KeepBut.of_grown hg g) (Kd.R_base2 HO_138001.out)); have n6_ := qM (ho); clear HO_138000; clear BK128; clear BK137; clear HI0; clear HB; clear HK; clear HO_138001; have HO_138000 := n0_; have BK128 := n1_; have BK137 := n2_; have HI0 := n3_; have HB := n4_; have HK := n5_; have HO169 := n6_; clear n0_ n1_ n2_ n3_ n4_ n5_ n6_; clear ho hb hg hat; obtain ⟨Ao112, co112, eo112⟩ := Kd.R_slice HO169.out; subst eo112; have hcz113_0 : w111.cell? ⟨gb137, 0, none⟩ = some (.slice Ao107 x138000_1.length co107) := (zC BK137.out 0).trans rfl; have hcz113_1 : w111.cell? ⟨gb137, 1, none⟩ = some ((.slice AqS x138001_1.length cqS)) := (zC BK137.out 1).trans rfl; have hfz113_0 := zF BK137.out 0; have hfz113_1 := zF BK137.out 1; have hnb114 := NB128_0.out; have hnc114 := NB0_128.out; have hcz115_0 : w111.cell? ⟨gb128, 0, none⟩ = some (.slice none 0 0) := (zC BK128.out 0).trans rfl; have hcz115_1 : w111.cell? ⟨gb128, 1, none⟩ = some (.slice none 0 0) := (zC BK128.out 1).trans rfl; have hfz115_0 := zF BK128.out 0; have hfz115_1 := zF BK128.out 1))
        refine bodyPost_ret (results_cell_row rfl _ _ gb128 37 #[.slice Ao107 x138000_1.length co107, .slice Ao112 y167.length co112] (0, 0) _ rfl (by (with_reducible repeat (first | refine zN ?_ _ | refine zD ?_ | refine zA ?_ _)); refine blk_put (cs := #[.slice Ao107 x138000_1.length co107, .slice none 0 0]) ?_ 1 _ rfl; (with_reducible repeat (first | refine zN ?_ _ | refine zD ?_ | refine zA ?_ _)); refine blk_put (cs := #[.slice none 0 0, .slice none 0 0]) ?_ 0 _ rfl; (with_reducible repeat (first | refine zN ?_ _ | refine zD ?_ | refine zA ?_ _)); refine blk_far ?_ NB128_137.out _; (with_reducible repeat (first | refine zN ?_ _ | refine zD ?_ | refine zA ?_ _)); exact BK128.out) Try.underlying37 rfl (by kernel_rfl)) rfl ?_
        exact ⟨_, _, by first | rfl | (simp [errW_none, errW_some] <;> rfl) | (simp [*, errW_none, errW_some] <;> rfl), by (with_reducible repeat (first | apply qA | apply qN | apply qD)); exact Kd.R_mono (qF (p := ⟨gb128, 1, none⟩) (qF (p := ⟨gb128, 0, none⟩) (qF (p := ⟨gb137, 1, none⟩) (Kd.R_types (Kd.R_types HO_138000.out BK137.out (by decide)) BK128.out (by decide)) (fun _ hk => hk.1.2) (.slice Ao112 y167.length co112)) (fun _ hk => hk.2) (.slice Ao107 x138000_1.length co107)) (fun _ hk => hk.2) (.slice Ao112 y167.length co112)) (fun _ hk => hk.1.1.2), by (with_reducible repeat (first | apply qA | apply qN | apply qD)); exact Kd.R_mono (qF (p := ⟨gb128, 1, none⟩) (qF (p := ⟨gb128, 0, none⟩) (qF (p := ⟨gb137, 1, none⟩) (Kd.R_types (Kd.R_types HO169.out BK137.out (by decide)) BK128.out (by decide)) (fun _ hk => hk.1.2) (.slice Ao112 y167.length co112)) (fun _ hk => hk.2) (.slice Ao107 x138000_1.length co107)) (fun _ hk => hk.2) (.slice Ao112 y167.length co112)) (fun _ hk => hk.1.1), by repeat (first | (with_reducible first | exact HI0.out | apply IsS93.alloc | apply IsS93.drewN | apply IsS93.drew | apply IsS93.set_1 | refine IsS93.far ?_ NB0_128.out _ | refine IsS93.far ?_ NB0_137.out _) | exact HI0.out), by repeat (first | (with_reducible first | exact HB.out | apply yA | apply yN | apply yD | refine yS ?_ (IsS93.ge HI0.out) | refine yS ?_ GE128.out | refine yS ?_ GE137.out) | exact HB.out), by repeat (first | (with_reducible first | exact HK.out | apply KeepBut.set_ | apply keep_drewN | apply keep_drew | apply keep_alloc | refine keep_far ?_ GW128.out _ | refine keep_far ?_ GW137.out _) | exact HK.out)⟩
       ·rw [if_neg c103] at H
        exact absurd H (by simp)
      ·rw [if_neg c102] at H
       have c102b0 : (t151 == 2) = false := beq_eq_false_iff_ne.mpr c102
       have c102b1 : (t151 != 2) = true := bne_iff_ne.mpr c102
       by_cases c116 : t151 = 3
       ·rw [if_pos c116] at H
        have c116b0 : (t151 == 3) = true := beq_iff_eq.mpr c116
        have c116b1 : (t151 != 3) = false := bne_eq_false_iff_eq.mpr c116
        clear c116
        obtain ⟨y170, hy170⟩ : ∃ y_ : List Int, y_ = (([] : List Int)) := ⟨_, rfl⟩
        replace H : (some (y170, x138001_1, t152)) = some (r1, r2, r3) := by first | (rw [hy170]; with_reducible exact H) | (have H2_ := (Option.bind_some _ _).symm.trans H; rw [hy170]; with_reducible exact H2_) | (have H2_ := (Option.bind_some _ _).symm.trans H; with_reducible exact H2_) | with_reducible exact H | (rw [hy170]; exact H) | exact H
        have Ny170 := qM hy170
        clear hy170
        simp only [Option.some.injEq, Prod.mk.injEq] at H
        obtain ⟨rfl, rfl, rfl⟩ := H
        have hnb117 := NB137_128.out
        have hnc117 := NB128_137.out
        have hnb118 := NB137_0.out
        have hnc118 := NB0_137.out
        have hcz119_0 : wr.cell? ⟨gb137, 0, none⟩ = some (u138000) := (zC BK137.out 0).trans rfl
        have hcz119_1 : wr.cell? ⟨gb137, 1, none⟩ = some ((.slice AqS x138001_1.length cqS)) := (zC BK137.out 1).trans rfl
        have hfz119_0 := zF BK137.out 0
        have hfz119_1 := zF BK137.out 1
        obtain ⟨Ao120, co120, eo120⟩ := Kd.R_slice HO_138000.out
        subst eo120
        go_wp2_with (first | ((with_reducible refine gate_callee (f := 53) rfl ?_); refine goesL_ (some 42) rfl rfl Try.func53 (by kernel_rfl) rfl #[.pointer (some ⟨g, 0, none⟩), .int .i64 (x138000_1.length : Int)] rfl (by (try simp only [List.map_toArray, List.map_cons, List.map_nil]); first | done | rfl | (simp only [List.length_drop, List.length_take]; rfl)) ?_; (with_reducible refine (spec_l30Rd_pick.calls k1 g s0_0 x1001_1 (x138000_1.length : Int) t149 t150 w0 _ ?side1 ?side2 A49.out).mono ?_); (case side1 => repeat (first | (with_reducible first | exact HI0.out | apply IsS93.alloc | apply IsS93.drewN | apply IsS93.drew | apply IsS93.set_1 | refine IsS93.far ?_ NB0_128.out _ | refine IsS93.far ?_ NB0_137.out _) | exact HI0.out)); (case side2 => repeat (first | (with_reducible first | exact HB.out | apply yA | apply yN | apply yD | refine yS ?_ (IsS93.ge HI0.out) | refine yS ?_ GE128.out | refine yS ?_ GE137.out) | exact HB.out)); rintro e w121 ⟨rfl, hi, hb, hk⟩; refine ⟨_, rfl, ?_⟩; have n0_ := qM (Kd.R_mono (Kd.R_keep (IsS93.apart (show IsS93 w0 _ g s0_0 x1001_1 from by repeat (first | (with_reducible first | exact HI0.out | apply IsS93.alloc | apply IsS93.drewN | apply IsS93.drew | apply IsS93.set_1 | refine IsS93.far ?_ NB0_128.out _ | refine IsS93.far ?_ NB0_137.out _) | exact HI0.out)) (by (with_reducible repeat (first | apply qA | apply qN | apply qD)); exact HO_138000.out) (by decide)) hk (fun _ h => h.2)) (fun _ h => h.1)); have n1_ := qM (Kd.R_mono (Kd.R_keep (IsS93.apart (show IsS93 w0 _ g s0_0 x1001_1 from by repeat (first | (with_reducible first | exact HI0.out | apply IsS93.alloc | apply IsS93.drewN | apply IsS93.drew | apply IsS93.set_1 | refine IsS93.far ?_ NB0_128.out _ | refine IsS93.far ?_ NB0_137.out _) | exact HI0.out)) (by (with_reducible repeat (first | apply qA | apply qN | apply qD)); exact HO_138001.out) (by decide)) hk (fun _ h => h.2)) (fun _ h => h.1)); have n2_ := qM (KeepBut.blk hk (g' := gb128) (o := .cells #[.slice none 0 0, .slice none 0 0] 37 (0, 0)) (by (with_reducible repeat (first | refine zN ?_ _ | refine zD ?_ | refine zA ?_ _)); exact BK128.out) NB128_0.out (by simp)); have n3_ := qM (KeepBut.blk hk (g' := gb137) (o := .cells #[.slice Ao120 x138000_1.length co120, (.slice AqS x138001_1.length cqS)] 37 (0, 0)) (by (with_reducible repeat (first | refine zN ?_ _ | refine zD ?_ | refine zA ?_ _)); exact BK137.out) NB137_0.out (by simp)); have n4_ := qM (KeepBut.trans (by repeat (first | (with_reducible first | exact HK.out | apply KeepBut.set_ | apply keep_drewN | apply keep_drew | apply keep_alloc | refine keep_far ?_ GW128.out _ | refine keep_far ?_ GW137.out _) | exact HK.out)) hk (.inl rfl)); have n5_ := qM (hb); have n6_ := qM (hi); clear HO_138000; clear HO_138001; clear BK128; clear BK137; clear HK; clear HB; clear HI0; have HO_138000 := n0_; have HO_138001 := n1_; have BK128 := n2_; have BK137 := n3_; have HK := n4_; have HB := n5_; have HI0 := n6_; clear n0_ n1_ n2_ n3_ n4_ n5_ n6_; (try clear hb); (try clear hb2); (try clear hk); (try clear hi)) | ((with_reducible refine gate_callee (f := 53) rfl ?_); refine goesL_ (some 44) rfl rfl Try.func53 (by kernel_rfl) rfl #[.pointer (some ⟨g, 0, none⟩), .int .i64 16] rfl (by (try simp only [List.map_toArray, List.map_cons, List.map_nil]); first | done | rfl | (simp only [List.length_drop, List.length_take]; rfl)) ?_; (with_reducible refine (spec_l30Rd_pick.calls k1 g s0_0 t150 16 t151 t152 w0 _ ?side1 ?side2 A50.out).mono ?_); (case side1 => repeat (first | (with_reducible first | exact HI0.out | apply IsS93.alloc | apply IsS93.drewN | apply IsS93.drew | apply IsS93.set_1 | refine IsS93.far ?_ NB0_128.out _ | refine IsS93.far ?_ NB0_137.out _) | exact HI0.out)); (case side2 => repeat (first | (with_reducible first | exact HB.out | apply yA | apply yN | apply yD | refine yS ?_ (IsS93.ge HI0.out) | refine yS ?_ GE128.out | refine yS ?_ GE137.out) | exact HB.out)); rintro e w122 ⟨rfl, hi, hb, hk⟩; refine ⟨_, rfl, ?_⟩; have n0_ := qM (Kd.R_mono (Kd.R_keep (IsS93.apart (show IsS93 w0 _ g s0_0 t150 from by repeat (first | (with_reducible first | exact HI0.out | apply IsS93.alloc | apply IsS93.drewN | apply IsS93.drew | apply IsS93.set_1 | refine IsS93.far ?_ NB0_128.out _ | refine IsS93.far ?_ NB0_137.out _) | exact HI0.out)) (by (with_reducible repeat (first | apply qA | apply qN | apply qD)); exact HO_138000.out) (by decide)) hk (fun _ h => h.2)) (fun _ h => h.1)); have n1_ := qM (Kd.R_mono (Kd.R_keep (IsS93.apart (show IsS93 w0 _ g s0_0 t150 from by repeat (first | (with_reducible first | exact HI0.out | apply IsS93.alloc | apply IsS93.drewN | apply IsS93.drew | apply IsS93.set_1 | refine IsS93.far ?_ NB0_128.out _ | refine IsS93.far ?_ NB0_137.out _) | exact HI0.out)) (by (with_reducible repeat (first | apply qA | apply qN | apply qD)); exact HO_138001.out) (by decide)) hk (fun _ h => h.2)) (fun _ h => h.1)); have n2_ := qM (KeepBut.blk hk (g' := gb128) (o := .cells #[.slice none 0 0, .slice none 0 0] 37 (0, 0)) (by (with_reducible repeat (first | refine zN ?_ _ | refine zD ?_ | refine zA ?_ _)); exact BK128.out) NB128_0.out (by simp)); have n3_ := qM (KeepBut.blk hk (g' := gb137) (o := .cells #[.slice Ao120 x138000_1.length co120, (.slice AqS x138001_1.length cqS)] 37 (0, 0)) (by (with_reducible repeat (first | refine zN ?_ _ | refine zD ?_ | refine zA ?_ _)); exact BK137.out) NB137_0.out (by simp)); have n4_ := qM (KeepBut.trans (by repeat (first | (with_reducible first | exact HK.out | apply KeepBut.set_ | apply keep_drewN | apply keep_drew | apply keep_alloc | refine keep_far ?_ GW128.out _ | refine keep_far ?_ GW137.out _) | exact HK.out)) hk (.inl rfl)); have n5_ := qM (hb); have n6_ := qM (hi); clear HO_138000; clear HO_138001; clear BK128; clear BK137; clear HK; clear HB; clear HI0; have HO_138000 := n0_; have HO_138001 := n1_; have BK128 := n2_; have BK137 := n3_; have HK := n4_; have HB := n5_; have HI0 := n6_; clear n0_ n1_ n2_ n3_ n4_ n5_ n6_; (try clear hb); (try clear hb2); (try clear hk); (try clear hi)) | ((with_reducible refine gate_dst (N := 76) rfl ?_); refine Kd.R_lit (Kd.int .i64) _ 3 ?hg (N := 76) ?hd (xs := ([] : List Int)) (inner := []) (ok := fun _ => True) (okp := fun _ => True) ?hr ?hp (fun _ hk => hk) trivial (Below.refl _ _) (Nat.le_refl _) (by simp) ?_; (case hd => rfl); (case hg => rfl); (case hr => first | (go_simp; done) | (go_simp; rfl)); (case hp => exact (Reps.none _ _)); intro v171 w123 ho124 hb hg_ hnew_; clear hg_ hnew_; (first | rw [← Ny170.out] at ho124 | (simp only [Int.reduceToNat] at ho124; rw [← Ny170.out] at ho124)); have n0_ := qM (Kd.R_elder' (by (with_reducible repeat (first | apply qA | apply qN | apply qD)); exact HO_138000.out) (Kd.R_base ho124) hb); have n1_ := qM (Kd.R_elder' (by (with_reducible repeat (first | apply qA | apply qN | apply qD)); exact HO_138001.out) (Kd.R_base ho124) hb); have n2_ := qM (Kd.R_lower (Kd.R_new' (Kd.R_new' ho124 (Kd.R_lt (by (with_reducible repeat (first | apply qA | apply qN | apply qD)); exact HO_138000.out))) (Kd.R_lt (by (with_reducible repeat (first | apply qA | apply qN | apply qD)); exact HO_138001.out))) (keep_size (w := w) (g := g) (row := none) (by repeat (first | (with_reducible first | exact HK.out | apply KeepBut.set_ | apply keep_drewN | apply keep_drew | apply keep_alloc | refine keep_far ?_ GW128.out _ | refine keep_far ?_ GW137.out _) | exact HK.out)))); have n3_ := qM (blk_below (g := gb128) (o := .cells #[.slice none 0 0, .slice none 0 0] 37 (0, 0)) (by (with_reducible repeat (first | refine zN ?_ _ | refine zD ?_ | refine zA ?_ _)); exact BK128.out) hb); have n4_ := qM (blk_below (g := gb137) (o := .cells #[.slice Ao120 x138000_1.length co120, (.slice AqS x138001_1.length cqS)] 37 (0, 0)) (by (with_reducible repeat (first | refine zN ?_ _ | refine zD ?_ | refine zA ?_ _)); exact BK137.out) hb); have n5_ := qM (IsS93.below (by repeat (first | (with_reducible first | exact HI0.out | apply IsS93.alloc | apply IsS93.drewN | apply IsS93.drew | apply IsS93.set_1 | refine IsS93.far ?_ NB0_128.out _ | refine IsS93.far ?_ NB0_137.out _) | exact HI0.out)) hb); have n6_ := qM (KeepBut.trans (by repeat (first | (with_reducible first | exact HK.out | apply KeepBut.set_ | apply keep_drewN | apply keep_drew | apply keep_alloc | refine keep_far ?_ GW128.out _ | refine keep_far ?_ GW137.out _) | exact HK.out)) (KeepBut.of_below hb g none) (.inl rfl)); have n7_ := qM (below_step (by repeat (first | (with_reducible first | exact HB.out | apply yA | apply yN | apply yD | refine yS ?_ (IsS93.ge HI0.out) | refine yS ?_ GE128.out | refine yS ?_ GE137.out) | exact HB.out)) hb); clear HO_138000; clear HO_138001; clear BK128; clear BK137; clear HI0; clear HK; clear HB; have HO_138000 := n0_; have HO_138001 := n1_; have HO172 := n2_; have BK128 := n3_; have BK137 := n4_; have HI0 := n5_; have HK := n6_; have HB := n7_; clear n0_ n1_ n2_ n3_ n4_ n5_ n6_ n7_; clear hb ho124; obtain ⟨Ao125, co125, eo125⟩ := Kd.R_slice HO172.out; subst eo125; have hcz126_0 : w123.cell? ⟨gb137, 0, none⟩ = some (.slice Ao120 x138000_1.length co120) := (zC BK137.out 0).trans rfl; have hcz126_1 : w123.cell? ⟨gb137, 1, none⟩ = some ((.slice AqS x138001_1.length cqS)) := (zC BK137.out 1).trans rfl; have hfz126_0 := zF BK137.out 0; have hfz126_1 := zF BK137.out 1; have hnb127 := NB128_0.out; have hnc127 := NB0_128.out; have hcz128_0 : w123.cell? ⟨gb128, 0, none⟩ = some (.slice none 0 0) := (zC BK128.out 0).trans rfl; have hcz128_1 : w123.cell? ⟨gb128, 1, none⟩ = some (.slice none 0 0) := (zC BK128.out 1).trans rfl; have hfz128_0 := zF BK128.out 0; have hfz128_1 := zF BK128.out 1))
        refine bodyPost_ret (results_cell_row rfl _ _ gb128 37 #[.slice Ao125 y170.length co125, .slice AqS x138001_1.length cqS] (0, 0) _ rfl (by (with_reducible repeat (first | refine zN ?_ _ | refine zD ?_ | refine zA ?_ _)); refine blk_put (cs := #[.slice Ao125 y170.length co125, .slice none 0 0]) ?_ 1 _ rfl; (with_reducible repeat (first | refine zN ?_ _ | refine zD ?_ | refine zA ?_ _)); refine blk_put (cs := #[.slice none 0 0, .slice none 0 0]) ?_ 0 _ rfl; (with_reducible repeat (first | refine zN ?_ _ | refine zD ?_ | refine zA ?_ _)); refine blk_far ?_ NB128_137.out _; (with_reducible repeat (first | refine zN ?_ _ | refine zD ?_ | refine zA ?_ _)); exact BK128.out) Try.underlying37 rfl (by kernel_rfl)) rfl ?_
        exact ⟨_, _, by first | rfl | (simp [errW_none, errW_some] <;> rfl) | (simp [*, errW_none, errW_some] <;> rfl), by (with_reducible repeat (first | apply qA | apply qN | apply qD)); exact Kd.R_mono (qF (p := ⟨gb128, 1, none⟩) (qF (p := ⟨gb128, 0, none⟩) (qF (p := ⟨gb137, 0, none⟩) (Kd.R_types (Kd.R_types HO172.out BK137.out (by decide)) BK128.out (by decide)) (fun _ hk => hk.1.2) (.slice Ao125 y170.length co125)) (fun _ hk => hk.2) (.slice Ao125 y170.length co125)) (fun _ hk => hk.2) (.slice AqS x138001_1.length cqS)) (fun _ hk => hk.1.1.2), by (with_reducible repeat (first | apply qA | apply qN | apply qD)); exact Kd.R_mono (qF (p := ⟨gb128, 1, none⟩) (qF (p := ⟨gb128, 0, none⟩) (qF (p := ⟨gb137, 0, none⟩) (Kd.R_types (Kd.R_types HO_138001.out BK137.out (by decide)) BK128.out (by decide)) (fun _ hk => hk.1.2) (.slice Ao125 y170.length co125)) (fun _ hk => hk.2) (.slice Ao125 y170.length co125)) (fun _ hk => hk.2) (.slice AqS x138001_1.length cqS)) (fun _ hk => hk.1.1.2), by repeat (first | (with_reducible first | exact HI0.out | apply IsS93.alloc | apply IsS93.drewN | apply IsS93.drew | apply IsS93.set_1 | refine IsS93.far ?_ NB0_128.out _ | refine IsS93.far ?_ NB0_137.out _) | exact HI0.out), by repeat (first | (with_reducible first | exact HB.out | apply yA | apply yN | apply yD | refine yS ?_ (IsS93.ge HI0.out) | refine yS ?_ GE128.out | refine yS ?_ GE137.out) | exact HB.out), by repeat (first | (with_reducible first | exact HK.out | apply KeepBut.set_ | apply keep_drewN | apply keep_drew | apply keep_alloc | refine keep_far ?_ GW128.out _ | refine keep_far ?_ GW137.out _) | exact HK.out)⟩
       ·rw [if_neg c116] at H
        have c116b0 : (t151 == 3) = false := beq_eq_false_iff_ne.mpr c116
        have c116b1 : (t151 != 3) = true := bne_iff_ne.mpr c116
        simp only [Option.some.injEq, Prod.mk.injEq] at H
        obtain ⟨rfl, rfl, rfl⟩ := H
        have hnb130 := NB137_128.out
        have hnc130 := NB128_137.out
        have hnb131 := NB137_0.out
        have hnc131 := NB0_137.out
        have hcz132_0 : wr.cell? ⟨gb137, 0, none⟩ = some (u138000) := (zC BK137.out 0).trans rfl
        have hcz132_1 : wr.cell? ⟨gb137, 1, none⟩ = some ((.slice AqS x138001_1.length cqS)) := (zC BK137.out 1).trans rfl
        have hfz132_0 := zF BK137.out 0
        have hfz132_1 := zF BK137.out 1
        obtain ⟨Ao133, co133, eo133⟩ := Kd.R_slice HO_138000.out
        subst eo133
        go_wp2_with (first | ((with_reducible refine gate_callee (f := 53) rfl ?_); refine goesL_ (some 42) rfl rfl Try.func53 (by kernel_rfl) rfl #[.pointer (some ⟨g, 0, none⟩), .int .i64 (x138000_1.length : Int)] rfl (by (try simp only [List.map_toArray, List.map_cons, List.map_nil]); first | done | rfl | (simp only [List.length_drop, List.length_take]; rfl)) ?_; (with_reducible refine (spec_l30Rd_pick.calls k1 g s0_0 x1001_1 (x138000_1.length : Int) t149 t150 w0 _ ?side1 ?side2 A49.out).mono ?_); (case side1 => repeat (first | (with_reducible first | exact HI0.out | apply IsS93.alloc | apply IsS93.drewN | apply IsS93.drew | apply IsS93.set_1 | refine IsS93.far ?_ NB0_128.out _ | refine IsS93.far ?_ NB0_137.out _) | exact HI0.out)); (case side2 => repeat (first | (with_reducible first | exact HB.out | apply yA | apply yN | apply yD | refine yS ?_ (IsS93.ge HI0.out) | refine yS ?_ GE128.out | refine yS ?_ GE137.out) | exact HB.out)); rintro e w134 ⟨rfl, hi, hb, hk⟩; refine ⟨_, rfl, ?_⟩; have n0_ := qM (Kd.R_mono (Kd.R_keep (IsS93.apart (show IsS93 w0 _ g s0_0 x1001_1 from by repeat (first | (with_reducible first | exact HI0.out | apply IsS93.alloc | apply IsS93.drewN | apply IsS93.drew | apply IsS93.set_1 | refine IsS93.far ?_ NB0_128.out _ | refine IsS93.far ?_ NB0_137.out _) | exact HI0.out)) (by (with_reducible repeat (first | apply qA | apply qN | apply qD)); exact HO_138000.out) (by decide)) hk (fun _ h => h.2)) (fun _ h => h.1)); have n1_ := qM (Kd.R_mono (Kd.R_keep (IsS93.apart (show IsS93 w0 _ g s0_0 x1001_1 from by repeat (first | (with_reducible first | exact HI0.out | apply IsS93.alloc | apply IsS93.drewN | apply IsS93.drew | apply IsS93.set_1 | refine IsS93.far ?_ NB0_128.out _ | refine IsS93.far ?_ NB0_137.out _) | exact HI0.out)) (by (with_reducible repeat (first | apply qA | apply qN | apply qD)); exact HO_138001.out) (by decide)) hk (fun _ h => h.2)) (fun _ h => h.1)); have n2_ := qM (KeepBut.blk hk (g' := gb128) (o := .cells #[.slice none 0 0, .slice none 0 0] 37 (0, 0)) (by (with_reducible repeat (first | refine zN ?_ _ | refine zD ?_ | refine zA ?_ _)); exact BK128.out) NB128_0.out (by simp)); have n3_ := qM (KeepBut.blk hk (g' := gb137) (o := .cells #[.slice Ao133 x138000_1.length co133, (.slice AqS x138001_1.length cqS)] 37 (0, 0)) (by (with_reducible repeat (first | refine zN ?_ _ | refine zD ?_ | refine zA ?_ _)); exact BK137.out) NB137_0.out (by simp)); have n4_ := qM (KeepBut.trans (by repeat (first | (with_reducible first | exact HK.out | apply KeepBut.set_ | apply keep_drewN | apply keep_drew | apply keep_alloc | refine keep_far ?_ GW128.out _ | refine keep_far ?_ GW137.out _) | exact HK.out)) hk (.inl rfl)); have n5_ := qM (hb); have n6_ := qM (hi); clear HO_138000; clear HO_138001; clear BK128; clear BK137; clear HK; clear HB; clear HI0; have HO_138000 := n0_; have HO_138001 := n1_; have BK128 := n2_; have BK137 := n3_; have HK := n4_; have HB := n5_; have HI0 := n6_; clear n0_ n1_ n2_ n3_ n4_ n5_ n6_; (try clear hb); (try clear hb2); (try clear hk); (try clear hi)) | ((with_reducible refine gate_callee (f := 53) rfl ?_); refine goesL_ (some 44) rfl rfl Try.func53 (by kernel_rfl) rfl #[.pointer (some ⟨g, 0, none⟩), .int .i64 16] rfl (by (try simp only [List.map_toArray, List.map_cons, List.map_nil]); first | done | rfl | (simp only [List.length_drop, List.length_take]; rfl)) ?_; (with_reducible refine (spec_l30Rd_pick.calls k1 g s0_0 t150 16 t151 t152 w0 _ ?side1 ?side2 A50.out).mono ?_); (case side1 => repeat (first | (with_reducible first | exact HI0.out | apply IsS93.alloc | apply IsS93.drewN | apply IsS93.drew | apply IsS93.set_1 | refine IsS93.far ?_ NB0_128.out _ | refine IsS93.far ?_ NB0_137.out _) | exact HI0.out)); (case side2 => repeat (first | (with_reducible first | exact HB.out | apply yA | apply yN | apply yD | refine yS ?_ (IsS93.ge HI0.out) | refine yS ?_ GE128.out | refine yS ?_ GE137.out) | exact HB.out)); rintro e w135 ⟨rfl, hi, hb, hk⟩; refine ⟨_, rfl, ?_⟩; have n0_ := qM (Kd.R_mono (Kd.R_keep (IsS93.apart (show IsS93 w0 _ g s0_0 t150 from by repeat (first | (with_reducible first | exact HI0.out | apply IsS93.alloc | apply IsS93.drewN | apply IsS93.drew | apply IsS93.set_1 | refine IsS93.far ?_ NB0_128.out _ | refine IsS93.far ?_ NB0_137.out _) | exact HI0.out)) (by (with_reducible repeat (first | apply qA | apply qN | apply qD)); exact HO_138000.out) (by decide)) hk (fun _ h => h.2)) (fun _ h => h.1)); have n1_ := qM (Kd.R_mono (Kd.R_keep (IsS93.apart (show IsS93 w0 _ g s0_0 t150 from by repeat (first | (with_reducible first | exact HI0.out | apply IsS93.alloc | apply IsS93.drewN | apply IsS93.drew | apply IsS93.set_1 | refine IsS93.far ?_ NB0_128.out _ | refine IsS93.far ?_ NB0_137.out _) | exact HI0.out)) (by (with_reducible repeat (first | apply qA | apply qN | apply qD)); exact HO_138001.out) (by decide)) hk (fun _ h => h.2)) (fun _ h => h.1)); have n2_ := qM (KeepBut.blk hk (g' := gb128) (o := .cells #[.slice none 0 0, .slice none 0 0] 37 (0, 0)) (by (with_reducible repeat (first | refine zN ?_ _ | refine zD ?_ | refine zA ?_ _)); exact BK128.out) NB128_0.out (by simp)); have n3_ := qM (KeepBut.blk hk (g' := gb137) (o := .cells #[.slice Ao133 x138000_1.length co133, (.slice AqS x138001_1.length cqS)] 37 (0, 0)) (by (with_reducible repeat (first | refine zN ?_ _ | refine zD ?_ | refine zA ?_ _)); exact BK137.out) NB137_0.out (by simp)); have n4_ := qM (KeepBut.trans (by repeat (first | (with_reducible first | exact HK.out | apply KeepBut.set_ | apply keep_drewN | apply keep_drew | apply keep_alloc | refine keep_far ?_ GW128.out _ | refine keep_far ?_ GW137.out _) | exact HK.out)) hk (.inl rfl)); have n5_ := qM (hb); have n6_ := qM (hi); clear HO_138000; clear HO_138001; clear BK128; clear BK137; clear HK; clear HB; clear HI0; have HO_138000 := n0_; have HO_138001 := n1_; have BK128 := n2_; have BK137 := n3_; have HK := n4_; have HB := n5_; have HI0 := n6_; clear n0_ n1_ n2_ n3_ n4_ n5_ n6_; (try clear hb); (try clear hb2); (try clear hk); (try clear hi); have hcz136_0 : w135.cell? ⟨gb137, 0, none⟩ = some (.slice Ao133 x138000_1.length co133) := (zC BK137.out 0).trans rfl; have hcz136_1 : w135.cell? ⟨gb137, 1, none⟩ = some ((.slice AqS x138001_1.length cqS)) := (zC BK137.out 1).trans rfl; have hfz136_0 := zF BK137.out 0; have hfz136_1 := zF BK137.out 1; have hnb137 := NB128_0.out; have hnc137 := NB0_128.out; have hcz138_0 : w135.cell? ⟨gb128, 0, none⟩ = some (.slice none 0 0) := (zC BK128.out 0).trans rfl; have hcz138_1 : w135.cell? ⟨gb128, 1, none⟩ = some (.slice none 0 0) := (zC BK128.out 1).trans rfl; have hfz138_0 := zF BK128.out 0; have hfz138_1 := zF BK128.out 1))
        refine bodyPost_ret (results_cell_row rfl _ _ gb128 37 #[.slice Ao133 x138000_1.length co133, .slice AqS x138001_1.length cqS] (0, 0) _ rfl (by (with_reducible repeat (first | refine zN ?_ _ | refine zD ?_ | refine zA ?_ _)); refine blk_put (cs := #[.slice Ao133 x138000_1.length co133, .slice none 0 0]) ?_ 1 _ rfl; (with_reducible repeat (first | refine zN ?_ _ | refine zD ?_ | refine zA ?_ _)); refine blk_put (cs := #[.slice none 0 0, .slice none 0 0]) ?_ 0 _ rfl; (with_reducible repeat (first | refine zN ?_ _ | refine zD ?_ | refine zA ?_ _)); exact BK128.out) Try.underlying37 rfl (by kernel_rfl)) rfl ?_
        exact ⟨_, _, by first | rfl | (simp [errW_none, errW_some] <;> rfl) | (simp [*, errW_none, errW_some] <;> rfl), by (with_reducible repeat (first | apply qA | apply qN | apply qD)); exact Kd.R_mono (qF (p := ⟨gb128, 1, none⟩) (qF (p := ⟨gb128, 0, none⟩) (Kd.R_types HO_138000.out BK128.out (by decide)) (fun _ hk => hk.2) (.slice Ao133 x138000_1.length co133)) (fun _ hk => hk.2) (.slice AqS x138001_1.length cqS)) (fun _ hk => hk.1), by (with_reducible repeat (first | apply qA | apply qN | apply qD)); exact Kd.R_mono (qF (p := ⟨gb128, 1, none⟩) (qF (p := ⟨gb128, 0, none⟩) (Kd.R_types HO_138001.out BK128.out (by decide)) (fun _ hk => hk.2) (.slice Ao133 x138000_1.length co133)) (fun _ hk => hk.2) (.slice AqS x138001_1.length cqS)) (fun _ hk => hk.1), by repeat (first | (with_reducible first | exact HI0.out | apply IsS93.alloc | apply IsS93.drewN | apply IsS93.drew | apply IsS93.set_1 | refine IsS93.far ?_ NB0_128.out _ | refine IsS93.far ?_ NB0_137.out _) | exact HI0.out), by repeat (first | (with_reducible first | exact HB.out | apply yA | apply yN | apply yD | refine yS ?_ (IsS93.ge HI0.out) | refine yS ?_ GE128.out | refine yS ?_ GE137.out) | exact HB.out), by repeat (first | (with_reducible first | exact HK.out | apply KeepBut.set_ | apply keep_drewN | apply keep_drew | apply keep_alloc | refine keep_far ?_ GW128.out _ | refine keep_far ?_ GW137.out _) | exact HK.out)⟩

end Go.Proofs.Ytaohaebgpbagmaa.PFnHrdRises
