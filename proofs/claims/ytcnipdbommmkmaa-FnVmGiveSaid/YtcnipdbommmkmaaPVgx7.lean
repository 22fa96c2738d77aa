/- Functions that a law reaches, each with the walk that shows what its call answers; laid by a program of this session. -/
import Derived.Test.YtcnipdbommmkmaaPVgx0
import Derived.Test.YtcnipdbommmkmaaPVgx5
import Derived.Test.YtcnipdbommmkmaaPVgx6
namespace Go.Proofs.Ytcnipdbommmkmaa.PVg
open Go.RowKit Go.Proofs.YtcnipdbommmkmaaW.PrintWords Go.Proofs.YtcnipdbommmkmaaW.PrintLast Go.Proofs.YtcnipdbommmkmaaW.PrintMore
attribute [local go_sem] max2_int min2_int max_two min_two max_three min_three max_four min_four   -- for this text's walks alone
set_option linter.unusedVariables false
set_option linter.unusedSimpArgs false

open Go.Proofs.YtcnipdbommmkmaaAl Go.Proofs.YtcnipdbommmkmaaSq
/-! ### spec_l31State: function 77 -/
mutual
def spec_l31State.l0 : Nat → Int → List Int → Int → Int → List Int → List Int → Int → Option (Int × List Int × List Int × Int × Int)
 | 0, _, _, _, _, _, _, _ => none
 | k + 1, x6, x1000, x1001, x270000, x270001, x270002, x270003 => if x6 < 4 then ((spec_l30Rd_pick.f k x1000 x1001 256).bind fun bt272 => ((some (([0, 1, 2, 7, 8, 255, bt272.1] : List Int) : List Int)).bind fun y274 => ((spec_l30Rd_pick.f k x1000 bt272.2 7).bind fun bt277 => (if 0 ≤ bt277.1 then (if bt277.1 < (y274.length : Int) then (if 0 ≤ x6 then (if x6 < (x270001.length : Int) then (spec_l31State.l0 k (wrap64 (x6 + 1)) x1000 bt277.2 x270000 (x270001.set (x6 : Int).toNat (rd y274 bt277.1)) x270002 x270003) else (none)) else (none)) else (none)) else (none))))) else (spec_l31State.l1 k 0 x1000 x1001 x270000 x270001 x270002 x270003)
def spec_l31State.l1 : Nat → Int → List Int → Int → Int → List Int → List Int → Int → Option (Int × List Int × List Int × Int × Int)
 | 0, _, _, _, _, _, _, _ => none
 | k + 1, x7, x1000, x1001, x270000, x270001, x270002, x270003 => if x7 < 8 then ((spec_l30Rd_pick.f k x1000 x1001 256).bind fun bt281 => (if 0 ≤ x7 then (if x7 < (x270002.length : Int) then (spec_l31State.l1 k (wrap64 (x7 + 1)) x1000 bt281.2 x270000 x270001 (x270002.set (x7 : Int).toNat bt281.1) x270003) else (none)) else (none))) else ((spec_l30Rd_pick.f k x1000 x1001 8).bind fun bt284 => (if bt284.1 = 0 then ((spec_l30Rd_pick.f k x1000 bt284.2 3).bind fun bt286 => (spec_l31State.j2 k x1000 bt286.2 x270000 x270001 x270002 bt286.1)) else (spec_l31State.j2 k x1000 bt284.2 x270000 x270001 x270002 x270003)))
def spec_l31State.j2 : Nat → List Int → Int → Int → List Int → List Int → Int → Option (Int × List Int × List Int × Int × Int)
 | 0, _, _, _, _, _, _ => none
 | k + 1, x1000, x1001, x270000, x270001, x270002, x270003 => (spec_l30Rd_pick.f k x1000 x1001 24).bind fun bt288 => (if bt288.1 = 0 then ((some (([(-1), 24, 25] : List Int) : List Int)).bind fun y290 => ((spec_l30Rd_pick.f k x1000 bt288.2 3).bind fun bt293 => (if 0 ≤ bt293.1 then (if bt293.1 < (y290.length : Int) then (some (rd y290 bt293.1, x270001, x270002, x270003, bt293.2)) else (none)) else (none)))) else (if bt288.1 = 1 then ((spec_l30Rd_pick.f k x1000 bt288.2 4).bind fun bt296 => ((some (([(-1), 256] : List Int) : List Int)).bind fun y298 => ((spec_l30Rd_pick.f k x1000 bt296.2 2).bind fun bt301 => (if 0 ≤ bt301.1 then (if bt301.1 < (y298.length : Int) then (if 0 ≤ bt296.1 then (if bt296.1 < (x270001.length : Int) then (some (x270000, (x270001.set (bt296.1 : Int).toNat (rd y298 bt301.1)), x270002, x270003, bt301.2)) else (none)) else (none)) else (none)) else (none))))) else (if bt288.1 = 2 then (if x270002.length < 17592186044416 then (some (x270000, x270001, (x270002 ++ [0]), x270003, bt288.2)) else (none)) else (if bt288.1 = 3 then ((some (([(-1), 3] : List Int) : List Int)).bind fun y308 => ((spec_l30Rd_pick.f k x1000 bt288.2 2).bind fun bt311 => (if 0 ≤ bt311.1 then (if bt311.1 < (y308.length : Int) then (some (x270000, x270001, x270002, rd y308 bt311.1, bt311.2)) else (none)) else (none)))) else (if bt288.1 = 4 then ((spec_l30Rd_pick.f k x1000 bt288.2 8).bind fun bt314 => (if 0 ≤ bt314.1 then (if bt314.1 < (x270002.length : Int) then (some (x270000, x270001, (x270002.set (bt314.1 : Int).toNat 256), x270003, bt314.2)) else (none)) else (none))) else (some (x270000, x270001, x270002, x270003, bt288.2)))))))
end
def spec_l31State.f (k : Nat) (s0_0 : List Int) (s0_1 : Int) (a1 : Int) : Option (Int × List Int × List Int × Int × Int) := (spec_VmNew.f k).bind fun bt261 => ((spec_l30Rd_pick.f k s0_0 s0_1 (wrap64 (a1 + 1))).bind fun bt270 => (spec_l31State.l0 k 0 s0_0 bt270.2 bt270.1 bt261.2.1 bt261.2.2.1 bt261.2.2.2))
theorem spec_l31State.mono_l : ∀ k, (∀ y0 y1 y2 y3 y4 y5 y6, LeO (spec_l31State.l0 k y0 y1 y2 y3 y4 y5 y6) (spec_l31State.l0 (k + 1) y0 y1 y2 y3 y4 y5 y6)) ∧ (∀ y0 y1 y2 y3 y4 y5 y6, LeO (spec_l31State.l1 k y0 y1 y2 y3 y4 y5 y6) (spec_l31State.l1 (k + 1) y0 y1 y2 y3 y4 y5 y6)) ∧ (∀ y0 y1 y2 y3 y4 y5, LeO (spec_l31State.j2 k y0 y1 y2 y3 y4 y5) (spec_l31State.j2 (k + 1) y0 y1 y2 y3 y4 y5))
 | 0 => ⟨fun _ _ _ _ _ _ _ r h => by simp [spec_l31State.l0] at h, fun _ _ _ _ _ _ _ r h => by simp [spec_l31State.l1] at h, fun _ _ _ _ _ _ r h => by simp [spec_l31State.j2] at h⟩
 | k + 1 => by
  obtain ⟨ih0, ih1, ih2⟩ := spec_l31State.mono_l k
  refine ⟨?_, ?_, ?_⟩
  ·intro y0 y1 y2 y3 y4 y5 y6
   unfold spec_l31State.l0
   repeat' first
   | (with_reducible exact ih0 _ _ _ _ _ _ _)
   | (with_reducible exact ih1 _ _ _ _ _ _ _)
   | (with_reducible exact ih2 _ _ _ _ _ _)
   | (with_reducible exact spec_VmNew.mono _)
   | (with_reducible exact spec_l30Rd_pick.mono _ _ _ _)
   | (with_reducible exact LeO.refl _)
   | (with_reducible exact LeO.none _)
   | (with_reducible refine LeO.ite ?_ ?_)
   | (with_reducible refine LeO.bind ?_ (fun _ => ?_))
   | exact ih0 _ _ _ _ _ _ _
   | exact ih1 _ _ _ _ _ _ _
   | exact ih2 _ _ _ _ _ _
   | exact spec_VmNew.mono _
   | exact spec_l30Rd_pick.mono _ _ _ _
   | exact LeO.none _
   | refine LeO.ite ?_ ?_
   | refine LeO.bind ?_ (fun _ => ?_)
  ·intro y0 y1 y2 y3 y4 y5 y6
   unfold spec_l31State.l1
   repeat' first
   | (with_reducible exact ih0 _ _ _ _ _ _ _)
   | (with_reducible exact ih1 _ _ _ _ _ _ _)
   | (with_reducible exact ih2 _ _ _ _ _ _)
   | (with_reducible exact spec_VmNew.mono _)
   | (with_reducible exact spec_l30Rd_pick.mono _ _ _ _)
   | (with_reducible exact LeO.refl _)
   | (with_reducible exact LeO.none _)
   | (with_reducible refine LeO.ite ?_ ?_)
   | (with_reducible refine LeO.bind ?_ (fun _ => ?_))
   | exact ih0 _ _ _ _ _ _ _
   | exact ih1 _ _ _ _ _ _ _
   | exact ih2 _ _ _ _ _ _
   | exact spec_VmNew.mono _
   | exact spec_l30Rd_pick.mono _ _ _ _
   | exact LeO.none _
   | refine LeO.ite ?_ ?_
   | refine LeO.bind ?_ (fun _ => ?_)
  ·intro y0 y1 y2 y3 y4 y5
   unfold spec_l31State.j2
   repeat' first
   | (with_reducible exact ih0 _ _ _ _ _ _ _)
   | (with_reducible exact ih1 _ _ _ _ _ _ _)
   | (with_reducible exact ih2 _ _ _ _ _ _)
   | (with_reducible exact spec_VmNew.mono _)
   | (with_reducible exact spec_l30Rd_pick.mono _ _ _ _)
   | (with_reducible exact LeO.refl _)
   | (with_reducible exact LeO.none _)
   | (with_reducible refine LeO.ite ?_ ?_)
   | (with_reducible refine LeO.bind ?_ (fun _ => ?_))
   | exact ih0 _ _ _ _ _ _ _
   | exact ih1 _ _ _ _ _ _ _
   | exact ih2 _ _ _ _ _ _
   | exact spec_VmNew.mono _
   | exact spec_l30Rd_pick.mono _ _ _ _
   | exact LeO.none _
   | refine LeO.ite ?_ ?_
   | refine LeO.bind ?_ (fun _ => ?_)
theorem spec_l31State.mono : ∀ a0 a1 a2 k, LeO (spec_l31State.f k a0 a1 a2) (spec_l31State.f (k + 1) a0 a1 a2) := by
 intro a0 a1 a2 k
 obtain ⟨ih0, ih1, ih2⟩ := spec_l31State.mono_l k
 unfold spec_l31State.f
 repeat' first
   | (with_reducible exact ih0 _ _ _ _ _ _ _)
   | (with_reducible exact ih1 _ _ _ _ _ _ _)
   | (with_reducible exact ih2 _ _ _ _ _ _)
   | (with_reducible exact spec_VmNew.mono _)
   | (with_reducible exact spec_l30Rd_pick.mono _ _ _ _)
   | (with_reducible exact LeO.refl _)
   | (with_reducible exact LeO.none _)
   | (with_reducible refine LeO.ite ?_ ?_)
   | (with_reducible refine LeO.bind ?_ (fun _ => ?_))
   | exact ih0 _ _ _ _ _ _ _
   | exact ih1 _ _ _ _ _ _ _
   | exact ih2 _ _ _ _ _ _
   | exact spec_VmNew.mono _
   | exact spec_l30Rd_pick.mono _ _ _ _
   | exact LeO.none _
   | refine LeO.ite ?_ ?_
   | refine LeO.bind ?_ (fun _ => ?_)
def spec_l31State.T6 : Bool × List (List Nat × List Nat) := (true, [([], []), ([0], [0]), ([], []), ([], []), ([3], [3]), ([4], [4]), ([], []), ([6, 4], [6]), ([5, 7], [5, 7]), ([8], [8]), ([1, 2, 0, 1, 2, 3, 4, 5, 6, 7, 8, 9], [1, 2]), ([10, 9, 7, 0, 1, 2, 3, 4, 5, 6, 7, 8, 9], [9, 10])])
def spec_l31State.B6 : List Nat := [0, 1, 0, 0, 8, 24, 0, 88, 248, 504, 1023, 2047]
theorem spec_l31State.tab6 : rtab .any (opsOf Try.f77 6) = spec_l31State.T6 := by kernel_rfl
theorem spec_l31State.bits6 : waitsOk spec_l31State.T6.2 spec_l31State.B6 = true := by kernel_rfl
def spec_l31State.T17 : Bool × List (List Nat × List Nat) := (true, [([], []), ([0], [0]), ([], []), ([2], [2]), ([], []), ([], []), ([5, 3], [5]), ([4, 6], [4, 6]), ([7], [7]), ([1, 3, 0, 1, 2, 3, 4, 5, 6, 7, 8], [1, 3]), ([9, 8, 6, 0, 1, 2, 3, 4, 5, 6, 7, 8], [8, 9])])
def spec_l31State.B17 : List Nat := [0, 1, 0, 4, 0, 0, 44, 124, 252, 511, 1023]
theorem spec_l31State.tab17 : rtab .any (opsOf Try.f77 17) = spec_l31State.T17 := by kernel_rfl
theorem spec_l31State.bits17 : waitsOk spec_l31State.T17.2 spec_l31State.B17 = true := by kernel_rfl
set_option maxHeartbeats 8000000 in
set_option maxRecDepth 100000 in
theorem spec_l31State.calls (k : Nat) (g : Nat) (s0_0 : List Int) (s0_1 : Int) (a1 : Int) (r1 : Int) (r2 : List Int) (r3 : List Int) (r4 : Int) (r5 : Int) (w0 w : World) (hI : IsS103 w0 w g s0_0 s0_1) (hB : Below w0.heap.size w0 w) (h : spec_l31State.f k s0_0 s0_1 a1 = some (r1, r2, r3, r4, r5)) :
  Calls Try.prog 77 #[.pointer (some ⟨g, 0, none⟩), .int .i64 a1] w fun e w' => ∃ v1_ v2_ : Value, e = .returned (.agg #[.int .i64 r1, v1_, v2_, .int .i64 r4]) ∧ Kd.R (Kd.int .i64) 3 w' w.heap.size (fun k_ => some k_ ≠ (v2_ : Value).ownBlock) v1_ r2 ∧ Kd.R (Kd.int .i64) 3 w' w.heap.size (fun k_ => some k_ ≠ (v1_ : Value).ownBlock) v2_ r3 ∧ IsS103 w0 w' g s0_0 r5 ∧ Below w0.heap.size w0 w' ∧ KeepBut w w' g none := by
 have hu30 := Try.underlying30
 have HI0 := qM hI
 have HK := qM (KeepBut.refl w g none)
 have HL := qM hB.size
 clear hI
 have HW0 := qM hB.size
 have HB := qM hB
 clear hB
 have H : ((spec_VmNew.f k).bind fun bt261 => ((spec_l30Rd_pick.f k s0_0 s0_1 (wrap64 (a1 + 1))).bind fun bt270 => (spec_l31State.l0 k 0 s0_0 bt270.2 bt270.1 bt261.2.1 bt261.2.2.1 bt261.2.2.2))) = some (r1, r2, r3, r4, r5) := h
 clear h
 replace H := Option.bind_eq_some_iff.mp H
 obtain ⟨⟨t261, t262, t265, t268⟩, A30, H⟩ := H
 replace H : ((spec_l30Rd_pick.f k s0_0 s0_1 (wrap64 (a1 + 1))).bind fun bt270 => (spec_l31State.l0 k 0 s0_0 bt270.2 bt270.1 t262 t265 t268)) = some (r1, r2, r3, r4, r5) := H
 have A3 := qM A30
 clear A30
 replace H := Option.bind_eq_some_iff.mp H
 obtain ⟨⟨t270, t271⟩, A40, H⟩ := H
 replace H : (spec_l31State.l0 k 0 s0_0 t271 t270 t262 t265 t268) = some (r1, r2, r3, r4, r5) := H
 have A4 := qM A40
 clear A40
 have H' := qM H
 clear H
 go_enter Try.func77, Try.ntmps77
 go_wp2_with (first | ((with_reducible refine gate_dst (N := 4) rfl ?_); refine box_event ?hg (N := 4) ?hd (cs := #[.int .i64 0, .slice none 0 0, .slice none 0 0, .int .i64 0]) (t := 30) ?hr ?_; (case hd => rfl); (case hg => rfl); (case hr => first | (go_simp; done) | (go_simp; rfl)); intro gb260 hg w5 hbox hb; have n0_ := qM (IsS103.below (by repeat (first | (with_reducible first | exact HI0.out | apply IsS103.alloc | apply IsS103.drewN | apply IsS103.drew | apply IsS103.set_1) | exact HI0.out)) hb); have n1_ := qM (KeepBut.trans (by repeat (first | (with_reducible first | exact HK.out | apply KeepBut.set_ | apply keep_drewN | apply keep_drew | apply keep_alloc) | exact HK.out)) (KeepBut.of_below hb g none) (.inl rfl)); have n2_ := qM (below_step (by repeat (first | (with_reducible first | exact HB.out | apply yA | apply yN | apply yD | refine yS ?_ (IsS103.ge HI0.out)) | exact HB.out)) hb); have n3_ := qM (hbox); have n4_ := qM ((by rw [hg]; exact (keep_size (w := w) (g := g) (row := none) (by repeat (first | (with_reducible first | exact HK.out | apply KeepBut.set_ | apply keep_drewN | apply keep_drew | apply keep_alloc) | exact HK.out))) : w.heap.size ≤ gb260)); have n5_ := qM ((Nat.le_trans HW0.out (by rw [hg]; exact (keep_size (w := w) (g := g) (row := none) (by repeat (first | (with_reducible first | exact HK.out | apply KeepBut.set_ | apply keep_drewN | apply keep_drew | apply keep_alloc) | exact HK.out))) : w.heap.size ≤ gb260) : w0.heap.size ≤ gb260)); have n6_ := qM ((by rw [hg]; exact Nat.ne_of_lt (IsS103.lt (show IsS103 w0 _ g s0_0 s0_1 from by repeat (first | (with_reducible first | exact HI0.out | apply IsS103.alloc | apply IsS103.drewN | apply IsS103.drew | apply IsS103.set_1) | exact HI0.out))) : g ≠ gb260)); have n7_ := qM ((by rw [hg]; exact Nat.ne_of_gt (IsS103.lt (show IsS103 w0 _ g s0_0 s0_1 from by repeat (first | (with_reducible first | exact HI0.out | apply IsS103.alloc | apply IsS103.drewN | apply IsS103.drew | apply IsS103.set_1) | exact HI0.out))) : gb260 ≠ g)); clear HI0 HK HB; revert n0_ n1_ n2_ n3_ n4_ n5_ n6_ n7_; intro HI0 HK HB BK260 GW260 GE260 NB0_260 NB260_0; clear hb hbox hg) | ((with_reducible refine gate_callee (f := 25) rfl ?_); refine goesL_ (some 8) rfl rfl Try.func25 (by kernel_rfl) rfl #[] rfl (by (try simp only [List.map_toArray, List.map_cons, List.map_nil]); first | done | rfl | (simp only [List.length_drop, List.length_take]; rfl)) ?_; (with_reducible refine (spec_VmNew.calls k  t261 t262 t265 t268 _ A3.out).mono ?_); rintro e w6 ⟨v263, v266, rfl, ho0, ho1, hb⟩; refine ⟨_, rfl, ?_⟩; have n0_ := qM (Kd.R_lower ho0 (keep_size (w := w) (g := g) (row := none) (by repeat (first | (with_reducible first | exact HK.out | apply KeepBut.set_ | apply keep_drewN | apply keep_drew | apply keep_alloc | refine keep_far ?_ GW260.out _) | exact HK.out)))); have n1_ := qM (Kd.R_lower ho1 (keep_size (w := w) (g := g) (row := none) (by repeat (first | (with_reducible first | exact HK.out | apply KeepBut.set_ | apply keep_drewN | apply keep_drew | apply keep_alloc | refine keep_far ?_ GW260.out _) | exact HK.out)))); have n2_ := qM (IsS103.below (by repeat (first | (with_reducible first | exact HI0.out | apply IsS103.alloc | apply IsS103.drewN | apply IsS103.drew | apply IsS103.set_1 | refine IsS103.far ?_ NB0_260.out _) | exact HI0.out)) hb); have n3_ := qM (blk_below (bz BK260) hb); have n4_ := qM (KeepBut.trans (by repeat (first | (with_reducible first | exact HK.out | apply KeepBut.set_ | apply keep_drewN | apply keep_drew | apply keep_alloc | refine keep_far ?_ GW260.out _) | exact HK.out)) (KeepBut.of_below hb g none) (.inl rfl)); have n5_ := qM (below_step (by repeat (first | (with_reducible first | exact HB.out | apply yA | apply yN | apply yD | refine yS ?_ (IsS103.ge HI0.out) | refine yS ?_ GE260.out) | exact HB.out)) hb); clear HI0 BK260 HK HB; revert n0_ n1_ n2_ n3_ n4_ n5_; intro HO264 HO267 HI0 BK260 HK HB; (try clear hb); (try clear hb2); (try clear hk); (try clear hi); (try clear ho0); (try clear ho1)) | ((with_reducible refine gate_dst (N := 5) rfl ?_); refine box_event ?hg (N := 5) ?hd (cs := #[.int .i64 0, .slice none 0 0, .slice none 0 0, .int .i64 0]) (t := 30) ?hr ?_; (case hd => rfl); (case hg => rfl); (case hr => first | (go_simp; done) | (go_simp; rfl)); intro gb269 hg w7 hbox hb; have n0_ := qM (Kd.R_below (qz HO264) hb); have n1_ := qM (Kd.R_below (qz HO267) hb); have n2_ := qM (IsS103.below (by repeat (first | (with_reducible first | exact HI0.out | apply IsS103.alloc | apply IsS103.drewN | apply IsS103.drew | apply IsS103.set_1 | refine IsS103.far ?_ NB0_260.out _) | exact HI0.out)) hb); have n3_ := qM (blk_below (bz BK260) hb); have n4_ := qM (KeepBut.trans (by repeat (first | (with_reducible first | exact HK.out | apply KeepBut.set_ | apply keep_drewN | apply keep_drew | apply keep_alloc | refine keep_far ?_ GW260.out _) | exact HK.out)) (KeepBut.of_below hb g none) (.inl rfl)); have n5_ := qM (below_step (by repeat (first | (with_reducible first | exact HB.out | apply yA | apply yN | apply yD | refine yS ?_ (IsS103.ge HI0.out) | refine yS ?_ GE260.out) | exact HB.out)) hb); have n6_ := qM (hbox); have n7_ := qM ((by rw [hg]; exact (keep_size (w := w) (g := g) (row := none) (by repeat (first | (with_reducible first | exact HK.out | apply KeepBut.set_ | apply keep_drewN | apply keep_drew | apply keep_alloc | refine keep_far ?_ GW260.out _) | exact HK.out))) : w.heap.size ≤ gb269)); have n8_ := qM ((Nat.le_trans HW0.out (by rw [hg]; exact (keep_size (w := w) (g := g) (row := none) (by repeat (first | (with_reducible first | exact HK.out | apply KeepBut.set_ | apply keep_drewN | apply keep_drew | apply keep_alloc | refine keep_far ?_ GW260.out _) | exact HK.out))) : w.heap.size ≤ gb269) : w0.heap.size ≤ gb269)); have n9_ := qM ((by rw [hg]; exact Nat.ne_of_lt (blk_lt (bz BK260)) : gb260 ≠ gb269)); have n10_ := qM ((by rw [hg]; exact Nat.ne_of_gt (blk_lt (bz BK260)) : gb269 ≠ gb260)); have n11_ := qM ((by rw [hg]; exact Nat.ne_of_lt (IsS103.lt (show IsS103 w0 _ g s0_0 s0_1 from by repeat (first | (with_reducible first | exact HI0.out | apply IsS103.alloc | apply IsS103.drewN | apply IsS103.drew | apply IsS103.set_1 | refine IsS103.far ?_ NB0_260.out _) | exact HI0.out))) : g ≠ gb269)); have n12_ := qM ((by rw [hg]; exact Nat.ne_of_gt (IsS103.lt (show IsS103 w0 _ g s0_0 s0_1 from by repeat (first | (with_reducible first | exact HI0.out | apply IsS103.alloc | apply IsS103.drewN | apply IsS103.drew | apply IsS103.set_1 | refine IsS103.far ?_ NB0_260.out _) | exact HI0.out))) : gb269 ≠ g)); clear HO264 HO267 HI0 BK260 HK HB; revert n0_ n1_ n2_ n3_ n4_ n5_ n6_ n7_ n8_ n9_ n10_ n11_ n12_; intro HO264 HO267 HI0 BK260 HK HB BK269 GW269 GE269 NB260_269 NB269_260 NB0_269 NB269_0; clear hb hbox hg; have hnb8 := NB269_260.out; have hnc8 := NB260_269.out; have hnb9 := NB269_0.out; have hnc9 := NB0_269.out; have hcz10_0 : w7.cell? ⟨gb269, 0, none⟩ = some (.int .i64 0) := (zC BK269.out 0).trans rfl; have hcz10_1 : w7.cell? ⟨gb269, 1, none⟩ = some (.slice none 0 0) := (zC BK269.out 1).trans rfl; have hcz10_2 : w7.cell? ⟨gb269, 2, none⟩ = some (.slice none 0 0) := (zC BK269.out 2).trans rfl; have hcz10_3 : w7.cell? ⟨gb269, 3, none⟩ = some (.int .i64 0) := (zC BK269.out 3).trans rfl; have hfz10_0 := zF BK269.out 0; have hfz10_1 := zF BK269.out 1; have hfz10_2 := zF BK269.out 2; have hfz10_3 := zF BK269.out 3; obtain ⟨Ao11, co11, eo11⟩ := Kd.R_slice HO264.out; subst eo11; obtain ⟨Ao12, co12, eo12⟩ := Kd.R_slice HO267.out; subst eo12) | ((with_reducible refine gate_callee (f := 73) rfl ?_); refine goesL_ (some 12) rfl rfl Try.func73 (by kernel_rfl) rfl #[.pointer (some ⟨g, 0, none⟩), .int .i64 (wrap64 (a1 + 1))] rfl (by (try simp only [List.map_toArray, List.map_cons, List.map_nil]); first | done | rfl | (simp only [List.length_drop, List.length_take]; rfl)) ?_; (with_reducible refine (spec_l30Rd_pick.calls k g s0_0 s0_1 (wrap64 (a1 + 1)) t270 t271 w0 _ ?side1 ?side2 A4.out).mono ?_); (case side1 => repeat (first | (with_reducible first | exact HI0.out | apply IsS103.alloc | apply IsS103.drewN | apply IsS103.drew | apply IsS103.set_1 | refine IsS103.far ?_ NB0_260.out _ | refine IsS103.far ?_ NB0_269.out _) | exact HI0.out)); (case side2 => repeat (first | (with_reducible first | exact HB.out | apply yA | apply yN | apply yD | refine yS ?_ (IsS103.ge HI0.out) | refine yS ?_ GE260.out | refine yS ?_ GE269.out) | exact HB.out)); rintro e w13 ⟨rfl, hi, hb, hk⟩; refine ⟨_, rfl, ?_⟩; have n0_ := qM (KeepBut.blk hk (g' := gb260) (o := .cells #[.int .i64 0, .slice none 0 0, .slice none 0 0, .int .i64 0] 30 (0, 0)) (by (with_reducible repeat (first | refine zN ?_ _ | refine zD ?_ | refine zA ?_ _)); refine blk_far ?_ NB260_269.out _; (with_reducible repeat (first | refine zN ?_ _ | refine zD ?_ | refine zA ?_ _)); refine blk_far ?_ NB260_269.out _; (with_reducible repeat (first | refine zN ?_ _ | refine zD ?_ | refine zA ?_ _)); refine blk_far ?_ NB260_269.out _; (with_reducible repeat (first | refine zN ?_ _ | refine zD ?_ | refine zA ?_ _)); refine blk_far ?_ NB260_269.out _; (with_reducible repeat (first | refine zN ?_ _ | refine zD ?_ | refine zA ?_ _)); exact BK260.out) NB260_0.out (by simp)); have n1_ := qM (Kd.R_mono (Kd.R_keep (IsS103.apart (show IsS103 w0 _ g s0_0 s0_1 from by repeat (first | (with_reducible first | exact HI0.out | apply IsS103.alloc | apply IsS103.drewN | apply IsS103.drew | apply IsS103.set_1 | refine IsS103.far ?_ NB0_260.out _ | refine IsS103.far ?_ NB0_269.out _) | exact HI0.out)) (by (with_reducible repeat (first | apply qA | apply qN | apply qD)); exact (Kd.R_mono (qF (p := ⟨gb269, 3, none⟩) (qF (p := ⟨gb269, 2, none⟩) (qF (p := ⟨gb269, 1, none⟩) (qF (p := ⟨gb269, 0, none⟩) (Kd.R_types HO264.out BK269.out (by decide)) (fun _ hk => hk.2) (.int .i64 t261)) (fun _ hk => hk.2) (.slice Ao11 t262.length co11)) (fun _ hk => hk.2) (.slice Ao12 t265.length co12)) (fun _ hk => hk.2) (.int .i64 t268)) (fun _ h_ => h_.1))) (by decide)) hk (fun _ h => h.2)) (fun _ h => h.1)); have n2_ := qM (Kd.R_mono (Kd.R_keep (IsS103.apart (show IsS103 w0 _ g s0_0 s0_1 from by repeat (first | (with_reducible first | exact HI0.out | apply IsS103.alloc | apply IsS103.drewN | apply IsS103.drew | apply IsS103.set_1 | refine IsS103.far ?_ NB0_260.out _ | refine IsS103.far ?_ NB0_269.out _) | exact HI0.out)) (by (with_reducible repeat (first | apply qA | apply qN | apply qD)); exact (Kd.R_mono (qF (p := ⟨gb269, 3, none⟩) (qF (p := ⟨gb269, 2, none⟩) (qF (p := ⟨gb269, 1, none⟩) (qF (p := ⟨gb269, 0, none⟩) (Kd.R_types HO267.out BK269.out (by decide)) (fun _ hk => hk.2) (.int .i64 t261)) (fun _ hk => hk.2) (.slice Ao11 t262.length co11)) (fun _ hk => hk.2) (.slice Ao12 t265.length co12)) (fun _ hk => hk.2) (.int .i64 t268)) (fun _ h_ => h_.1))) (by decide)) hk (fun _ h => h.2)) (fun _ h => h.1)); have n3_ := qM (KeepBut.blk hk (g' := gb269) (o := .cells #[.int .i64 t261, .slice Ao11 t262.length co11, .slice Ao12 t265.length co12, .int .i64 t268] 30 (0, 0)) (by (with_reducible repeat (first | refine zN ?_ _ | refine zD ?_ | refine zA ?_ _)); refine blk_put (cs := #[.int .i64 t261, .slice Ao11 t262.length co11, .slice Ao12 t265.length co12, .int .i64 0]) ?_ 3 _ rfl; (with_reducible repeat (first | refine zN ?_ _ | refine zD ?_ | refine zA ?_ _)); refine blk_put (cs := #[.int .i64 t261, .slice Ao11 t262.length co11, .slice none 0 0, .int .i64 0]) ?_ 2 _ rfl; (with_reducible repeat (first | refine zN ?_ _ | refine zD ?_ | refine zA ?_ _)); refine blk_put (cs := #[.int .i64 t261, .slice none 0 0, .slice none 0 0, .int .i64 0]) ?_ 1 _ rfl; (with_reducible repeat (first | refine zN ?_ _ | refine zD ?_ | refine zA ?_ _)); refine blk_put (cs := #[.int .i64 0, .slice none 0 0, .slice none 0 0, .int .i64 0]) ?_ 0 _ rfl; (with_reducible repeat (first | refine zN ?_ _ | refine zD ?_ | refine zA ?_ _)); exact BK269.out) NB269_0.out (by simp)); have n4_ := qM (KeepBut.trans (by repeat (first | (with_reducible first | exact HK.out | apply KeepBut.set_ | apply keep_drewN | apply keep_drew | apply keep_alloc | refine keep_far ?_ GW260.out _ | refine keep_far ?_ GW269.out _) | exact HK.out)) hk (.inl rfl)); have n5_ := qM (hb); have n6_ := qM (hi); clear BK260 HO264 HO267 BK269 HK HB HI0; revert n0_ n1_ n2_ n3_ n4_ n5_ n6_; intro BK260 HO264 HO267 BK269 HK HB HI0; (try clear hb); (try clear hb2); (try clear hk); (try clear hi); have hcz14_0 : w13.cell? ⟨gb269, 0, none⟩ = some (.int .i64 t261) := (zC BK269.out 0).trans rfl; have hcz14_1 : w13.cell? ⟨gb269, 1, none⟩ = some (.slice Ao11 t262.length co11) := (zC BK269.out 1).trans rfl; have hcz14_2 : w13.cell? ⟨gb269, 2, none⟩ = some (.slice Ao12 t265.length co12) := (zC BK269.out 2).trans rfl; have hcz14_3 : w13.cell? ⟨gb269, 3, none⟩ = some (.int .i64 t268) := (zC BK269.out 3).trans rfl; have hfz14_0 := zF BK269.out 0; have hfz14_1 := zF BK269.out 1; have hfz14_2 := zF BK269.out 2; have hfz14_3 := zF BK269.out 3))
 go_loopg [6] k (fun kq v6 w' => ∃ (x6_1 : Int) (x1001_1 : Int) (x270001_1 : List Int) (x270002_1 : List Int) (u270001 : Value) (u270002 : Value), v6 = .int .i64 x6_1 ∧ Aside0 (spec_l31State.l0 kq x6_1 s0_0 x1001_1 t270 x270001_1 x270002_1 t268 = some (r1, r2, r3, r4, r5)) ∧ Aside0 (kq ≤ k) ∧ Aside0 (Kd.R (Kd.int .i64) 3 w' w.heap.size (fun k_ => some k_ ≠ (u270002 : Value).ownBlock) u270001 x270001_1) ∧ Aside0 (Kd.R (Kd.int .i64) 3 w' w.heap.size (fun k_ => some k_ ≠ (u270001 : Value).ownBlock) u270002 x270002_1) ∧ Aside0 (w'.heap[gb260]? = some (.cells #[.int .i64 0, (.slice none 0 0), (.slice none 0 0), .int .i64 0] 30 (0, 0))) ∧ Aside0 (w'.heap[gb269]? = some (.cells #[.int .i64 t270, u270001, u270002, .int .i64 t268] 30 (0, 0))) ∧ Aside0 (IsS103 w0 w' g s0_0 x1001_1) ∧ Aside0 (KeepBut w w' g none) ∧ Aside0 (Below w0.heap.size w0 w'))
 case atStart => exact ⟨(0), (t271), (t262), (t265), (.slice Ao11 t262.length co11), (.slice Ao12 t265.length co12), (by first | rfl | (simp; done) | (simp [*]; done)), H', ⟨Nat.le_refl _⟩, ⟨by (with_reducible repeat (first | apply qA | apply qN | apply qD)); exact Kd.R_mono (qF (p := ⟨gb269, 0, none⟩) (Kd.R_types HO264.out BK269.out (by decide)) (fun _ hk => hk.2) (.int .i64 t270)) (fun _ hk => hk.1)⟩, ⟨by (with_reducible repeat (first | apply qA | apply qN | apply qD)); exact Kd.R_mono (qF (p := ⟨gb269, 0, none⟩) (Kd.R_types HO267.out BK269.out (by decide)) (fun _ hk => hk.2) (.int .i64 t270)) (fun _ hk => hk.1)⟩, ⟨by (with_reducible repeat (first | refine zN ?_ _ | refine zD ?_ | refine zA ?_ _)); refine blk_far ?_ NB260_269.out _; (with_reducible repeat (first | refine zN ?_ _ | refine zD ?_ | refine zA ?_ _)); exact BK260.out⟩, ⟨by (with_reducible repeat (first | refine zN ?_ _ | refine zD ?_ | refine zA ?_ _)); refine blk_put (cs := #[.int .i64 t261, .slice Ao11 t262.length co11, .slice Ao12 t265.length co12, .int .i64 t268]) ?_ 0 _ rfl; (with_reducible repeat (first | refine zN ?_ _ | refine zD ?_ | refine zA ?_ _)); exact BK269.out⟩, ⟨by repeat (first | (with_reducible first | exact HI0.out | apply IsS103.alloc | apply IsS103.drewN | apply IsS103.drew | apply IsS103.set_1 | refine IsS103.far ?_ NB0_260.out _ | refine IsS103.far ?_ NB0_269.out _) | exact HI0.out)⟩, ⟨by repeat (first | (with_reducible first | exact HK.out | apply KeepBut.set_ | apply keep_drewN | apply keep_drew | apply keep_alloc | refine keep_far ?_ GW260.out _ | refine keep_far ?_ GW269.out _) | exact HK.out)⟩, ⟨by repeat (first | (with_reducible first | exact HB.out | apply yA | apply yN | apply yD | refine yS ?_ (IsS103.ge HI0.out) | refine yS ?_ GE260.out | refine yS ?_ GE269.out) | exact HB.out)⟩⟩
 case round =>
  clear H'
  try clear c2
  try clear p2
  try clear p6
  try clear c7
  try clear c8
  try clear c9
  try clear hcz10_0
  try clear hcz10_1
  try clear hcz10_2
  try clear hcz10_3
  try clear hcz14_0
  try clear hcz14_1
  try clear hcz14_2
  try clear hcz14_3
  try clear hfz10_0
  try clear hfz10_1
  try clear hfz10_2
  try clear hfz10_3
  try clear hfz14_0
  try clear hfz14_1
  try clear hfz14_2
  try clear hfz14_3
  obtain ⟨x6_1, x1001_1, x270001_1, x270002_1, u270001, u270002, rfl, HA, HK1, HO_270001, HO_270002, BK260, BK269, HI0, HK, HB⟩ := hrel
  cases gk with
  | zero => exact absurd HA.out (by simp [spec_l31State.l0])
  | succ k1 =>
   have H := HA.out
   clear HA
   simp only [spec_l31State.l0] at H
   by_cases c15 : x6_1 < 4
   ·rw [if_pos c15] at H
    have c15b0 : decide (x6_1 < 4) = true := decide_eq_true c15
    clear c15
    replace H := Option.bind_eq_some_iff.mp H
    obtain ⟨⟨t272, t273⟩, A160, H⟩ := H
    replace H : ((some (([0, 1, 2, 7, 8, 255, t272] : List Int) : List Int)).bind fun y274 => ((spec_l30Rd_pick.f k1 s0_0 t273 7).bind fun bt277 => (if 0 ≤ bt277.1 then (if bt277.1 < (y274.length : Int) then (if 0 ≤ x6_1 then (if x6_1 < (x270001_1.length : Int) then (spec_l31State.l0 k1 (wrap64 (x6_1 + 1)) s0_0 bt277.2 t270 (x270001_1.set (x6_1 : Int).toNat (rd y274 bt277.1)) x270002_1 t268) else (none)) else (none)) else (none)) else (none)))) = some (r1, r2, r3, r4, r5) := H
    have A16 := qM A160
    clear A160
    obtain ⟨y274, hy274⟩ : ∃ y_ : List Int, y_ = (([0, 1, 2, 7, 8, 255, t272] : List Int)) := ⟨_, rfl⟩
    replace H : ((spec_l30Rd_pick.f k1 s0_0 t273 7).bind fun bt277 => (if 0 ≤ bt277.1 then (if bt277.1 < (y274.length : Int) then (if 0 ≤ x6_1 then (if x6_1 < (x270001_1.length : Int) then (spec_l31State.l0 k1 (wrap64 (x6_1 + 1)) s0_0 bt277.2 t270 (x270001_1.set (x6_1 : Int).toNat (rd y274 bt277.1)) x270002_1 t268) else (none)) else (none)) else (none)) else (none))) = some (r1, r2, r3, r4, r5) := by first | (rw [hy274]; with_reducible exact H) | (have H2_ := (Option.bind_some _ _).symm.trans H; rw [hy274]; with_reducible exact H2_) | (have H2_ := (Option.bind_some _ _).symm.trans H; with_reducible exact H2_) | with_reducible exact H | (rw [hy274]; exact H) | exact H
    have Ny274 := qM hy274
    clear hy274
    replace H := Option.bind_eq_some_iff.mp H
    obtain ⟨⟨t277, t278⟩, A170, H⟩ := H
    replace H : (if 0 ≤ t277 then (if t277 < (y274.length : Int) then (if 0 ≤ x6_1 then (if x6_1 < (x270001_1.length : Int) then (spec_l31State.l0 k1 (wrap64 (x6_1 + 1)) s0_0 t278 t270 (x270001_1.set (x6_1 : Int).toNat (rd y274 t277)) x270002_1 t268) else (none)) else (none)) else (none)) else (none)) = some (r1, r2, r3, r4, r5) := H
    have A17 := qM A170
    clear A170
    by_cases c18 : 0 ≤ t277
    ·rw [if_pos c18] at H
     have c18b0 : decide (0 ≤ t277) = true := decide_eq_true c18
     clear c18
     by_cases c19 : t277 < (y274.length : Int)
     ·rw [if_pos c19] at H
      have c19b0 : decide (t277 < (y274.length : Int)) = true := decide_eq_true c19
      clear c19
      by_cases c20 : 0 ≤ x6_1
      ·rw [if_pos c20] at H
       have c20b0 : decide (0 ≤ x6_1) = true := decide_eq_true c20
       clear c20
       by_cases c21 : x6_1 < (x270001_1.length : Int)
       ·rw [if_pos c21] at H
        have c21b0 : decide (x6_1 < (x270001_1.length : Int)) = true := decide_eq_true c21
        clear c21
        obtain ⟨y280, hy280⟩ : ∃ y_ : List Int, y_ = (x270001_1.set (x6_1 : Int).toNat (rd y274 t277)) := ⟨_, rfl⟩
        replace H : (spec_l31State.l0 k1 (wrap64 (x6_1 + 1)) s0_0 t278 t270 y280 x270002_1 t268) = some (r1, r2, r3, r4, r5) := by first | (rw [hy280]; with_reducible exact H) | (have H2_ := (Option.bind_some _ _).symm.trans H; rw [hy280]; with_reducible exact H2_) | (have H2_ := (Option.bind_some _ _).symm.trans H; with_reducible exact H2_) | with_reducible exact H | (rw [hy280]; exact H) | exact H
        have Ny280 := qM hy280
        clear hy280
        have H' := qM H
        clear H
        try go_wp2
        have pi279 : (0 ≤ (t277 : Int)) = True := eq_true (of_decide_eq_true (by first | (with_reducible assumption) | assumption))
        have qi279 : (t277 < (y274.length : Int)) = True := eq_true (of_decide_eq_true (by first | (with_reducible assumption) | assumption))
        have n0_ := qM (qD HO_270001.out)
        have n1_ := qM (qD HO_270002.out)
        have n2_ := qM (zD BK260.out)
        have n3_ := qM (zD BK269.out)
        have n4_ := qM (IsS103.drew HI0.out)
        have n5_ := qM (keep_drew HK.out)
        have n6_ := qM (yD HB.out)
        clear HO_270001 HO_270002 BK260 BK269 HI0 HK HB
        revert n0_ n1_ n2_ n3_ n4_ n5_ n6_
        intro HO_270001 HO_270002 BK260 BK269 HI0 HK HB
        refine start_ (n := 12) (S := fun w' => w'.cell? ⟨gb269, 0, none⟩ = some (.int .i64 t270) ∧ w'.cell? ⟨gb269, 1, none⟩ = some (u270001) ∧ w'.cell? ⟨gb269, 2, none⟩ = some (u270002) ∧ w'.cell? ⟨gb269, 3, none⟩ = some (.int .i64 t268)) (ds := [11]) #[false, false, false, false, false, false, false, false, false, false, false, false] (by kernel_rfl) rfl rfl ⟨(zC BK269.out 0).trans rfl, (zC BK269.out 1).trans rfl, (zC BK269.out 2).trans rfl, (zC BK269.out 3).trans rfl⟩ (fun hHeld => ?_); refine with_tabW spec_l31State.tab6 spec_l31State.bits6 (fun HT_ HW_ => ?_)
        generalize wr.drew = w23 at HO_270001 HO_270002 BK260 BK269 HI0 HK HB hHeld ⊢
        refine pure_ (i := 0) (N := some 18) (v := ?_) (a' := ?_) #[true, false, false, false, false, false, false, false, false, false, false, false] rfl rfl (any_of HT_.out (by kernel_rfl)) (fun _ _ _ h => h) (Or.inl ⟨by rfl, ?_⟩) ?_ ?_
        rotate_left
        ·intro w'
         go_simp
         with_reducible rfl
        rotate_left
        ·simp only [Act.put, List.setIfInBounds_toArray, List.set_cons_zero, List.set_cons_succ, i64_w, i32_w]
         rfl
        refine pure_ (i := 2) (N := some 20) (v := ?_) (a' := ?_) #[true, false, true, false, false, false, false, false, false, false, false, false] rfl rfl (any_of HT_.out (by kernel_rfl)) (fun _ _ _ h => h) (Or.inl ⟨by rfl, ?_⟩) ?_ ?_
        rotate_left
        ·intro w'
         go_simp
         with_reducible rfl
        rotate_left
        ·simp only [Act.put, List.setIfInBounds_toArray, List.set_cons_zero, List.set_cons_succ, i64_w, i32_w]
         rfl
        refine pure_ (i := 3) (N := some 21) (v := ?_) (a' := ?_) #[true, false, true, true, false, false, false, false, false, false, false, false] rfl rfl (any_of HT_.out (by kernel_rfl)) (fun _ _ _ h => h) (Or.inl ⟨by rfl, ?_⟩) ?_ ?_
        rotate_left
        ·intro w'
         go_simp
         with_reducible rfl
        rotate_left
        ·simp only [Act.put, List.setIfInBounds_toArray, List.set_cons_zero, List.set_cons_succ, i64_w, i32_w]
         rfl
        refine pure_ (i := 6) (N := some 24) (v := ?_) (a' := ?_) #[true, false, true, true, false, false, true, false, false, false, false, false] rfl rfl (any_of HT_.out (by kernel_rfl)) (fun _ _ _ h => h) (Or.inl ⟨by rfl, ?_⟩) ?_ ?_
        rotate_left
        ·intro w'
         go_simp
         with_reducible rfl
        rotate_left
        ·simp only [Act.put, List.setIfInBounds_toArray, List.set_cons_zero, List.set_cons_succ, i64_w, i32_w]
         rfl
        refine take_ (i := 1) (N := some 19) (v := ?_) (a' := ?_) #[true, true, true, true, false, false, true, false, false, false, false, false] rfl rfl (take_ofW HT_.out HW_.out (by kernel_rfl)) (fun _ _ _ h => h) (Or.inl ⟨by rfl, ?_⟩) hHeld ?_ ?_
        rotate_left
        ·rintro w' ⟨s0, s1, s2, s3⟩
         go_simp
         with_reducible rfl
        rotate_left
        ·simp only [Act.put, List.setIfInBounds_toArray, List.set_cons_zero, List.set_cons_succ, i64_w, i32_w]
         rfl
        refine one_ (i := 4) (N := some 22) #[true, true, true, true, true, false, true, false, false, false, false, false] rfl rfl (one_of HT_.out (by kernel_rfl)) (by decide) (fun K hK => ?_)
        refine goes_ Try.func73 (by kernel_rfl) rfl #[.pointer (some ⟨g, 0, none⟩), .int .i64 256] (by rfl) rfl rfl (by (try simp only [List.map_toArray, List.map_cons, List.map_nil]); first | done | rfl | (simp only [List.length_drop, List.length_take]; rfl)) ?_
        with_reducible refine (spec_l30Rd_pick.calls k1 g s0_0 x1001_1 256 t272 t273 w0 _ ?side1 ?side2 A16.out).mono ?_
        (case side1 => repeat (first | (with_reducible first | exact HI0.out | apply IsS103.alloc | apply IsS103.drewN | apply IsS103.drew | apply IsS103.set_1 | refine IsS103.far ?_ NB0_260.out _ | refine IsS103.far ?_ NB0_269.out _) | exact HI0.out))
        (case side2 => repeat (first | (with_reducible first | exact HB.out | apply yA | apply yN | apply yD | refine yS ?_ (IsS103.ge HI0.out) | refine yS ?_ GE260.out | refine yS ?_ GE269.out) | exact HB.out))
        rintro e w24 ⟨rfl, hi, hb, hk⟩
        refine ⟨_, rfl, ?_⟩
        have n0_ := qM (Kd.R_mono (Kd.R_keep (IsS103.apart (show IsS103 w0 _ g s0_0 x1001_1 from by repeat (first | (with_reducible first | exact HI0.out | apply IsS103.alloc | apply IsS103.drewN | apply IsS103.drew | apply IsS103.set_1 | refine IsS103.far ?_ NB0_260.out _ | refine IsS103.far ?_ NB0_269.out _) | exact HI0.out)) (qz HO_270001) (by decide)) hk (fun _ h => h.2)) (fun _ h => h.1))
        have n1_ := qM (Kd.R_mono (Kd.R_keep (IsS103.apart (show IsS103 w0 _ g s0_0 x1001_1 from by repeat (first | (with_reducible first | exact HI0.out | apply IsS103.alloc | apply IsS103.drewN | apply IsS103.drew | apply IsS103.set_1 | refine IsS103.far ?_ NB0_260.out _ | refine IsS103.far ?_ NB0_269.out _) | exact HI0.out)) (qz HO_270002) (by decide)) hk (fun _ h => h.2)) (fun _ h => h.1))
        have n2_ := qM (KeepBut.blk hk (g' := gb260) (o := .cells #[.int .i64 0, .slice none 0 0, .slice none 0 0, .int .i64 0] 30 (0, 0)) (bz BK260) NB260_0.out (by simp))
        have n3_ := qM (KeepBut.blk hk (g' := gb269) (o := .cells #[.int .i64 t270, u270001, u270002, .int .i64 t268] 30 (0, 0)) (bz BK269) NB269_0.out (by simp))
        have n4_ := qM (KeepBut.trans (by repeat (first | (with_reducible first | exact HK.out | apply KeepBut.set_ | apply keep_drewN | apply keep_drew | apply keep_alloc | refine keep_far ?_ GW260.out _ | refine keep_far ?_ GW269.out _) | exact HK.out)) hk (.inl rfl))
        have n5_ := qM (hb)
        have n6_ := qM (hi)
        clear HO_270001 HO_270002 BK260 BK269 HK HB HI0
        revert n0_ n1_ n2_ n3_ n4_ n5_ n6_
        intro HO_270001 HO_270002 BK260 BK269 HK HB HI0
        (try clear hb)
        (try clear hb2)
        (try clear hk)
        (try clear hi)
        refine hK.out _ _ ⟨(zC BK269.out 0).trans rfl, (zC BK269.out 1).trans rfl, (zC BK269.out 2).trans rfl, (zC BK269.out 3).trans rfl⟩ (fun hHeld => ?_)
        clear hK K
        refine norm_ (a' := ?_) ?_ ?_
        rotate_left
        ·show Act.put _ (some 22) _ = _
         simp only [Act.put, List.setIfInBounds_toArray, List.set_cons_zero, List.set_cons_succ, i64_w, i32_w]
         rfl
        refine join_ (σ := Value × Addr) 4 #[true, true, true, true, true, true, true, true, false, false, false, false] (fun s_ => [(23, s_.1), (25, .int .i64 t277)]) (fun s_ w' => (w'.cell? ⟨gb269, 0, none⟩ = some (.int .i64 t270) ∧ w'.cell? ⟨gb269, 1, none⟩ = some (u270001) ∧ w'.cell? ⟨gb269, 2, none⟩ = some (u270002) ∧ w'.cell? ⟨gb269, 3, none⟩ = some (.int .i64 t268)) ∧ (Kd.R (Kd.int .i64) 3 w' w.heap.size (fun k_ => some k_ ≠ (u270001 : Value).ownBlock ∧ some k_ ≠ (u270002 : Value).ownBlock) s_.1 y274) ∧ (Kd.R (Kd.int .i64) 3 w' w.heap.size (fun k_ => some k_ ≠ (s_.1 : Value).ownBlock ∧ some k_ ≠ (u270002 : Value).ownBlock) u270001 x270001_1) ∧ (Kd.R (Kd.int .i64) 3 w' w.heap.size (fun k_ => some k_ ≠ (s_.1 : Value).ownBlock ∧ some k_ ≠ (u270001 : Value).ownBlock) u270002 x270002_1) ∧ (∃ c_, (s_.1 : Value) = .slice (some s_.2) y274.length c_) ∧ (w'.heap[gb260]? = some (.cells #[.int .i64 0, .slice none 0 0, .slice none 0 0, .int .i64 0] 30 (0, 0))) ∧ (w'.heap[gb269]? = some (.cells #[.int .i64 t270, u270001, u270002, .int .i64 t268] 30 (0, 0))) ∧ (IsS103 w0 w' g s0_0 t278) ∧ (KeepBut w w' g none) ∧ (Below w0.heap.size w0 w')) ?_ ?_
        rotate_left
        ·intro hCont
         refine two_ (i := 5) (j := 7) (Ni := some 23) (Nj := some 25) #[true, true, true, true, true, true, true, false, false, false, false, false] #[true, true, true, true, true, false, true, true, false, false, false, false] rfl rfl rfl rfl (two_of HT_.out (by kernel_rfl)) (by decide) (by decide) (fun K hK => ?_) (fun K hK => ?_)
         ·skip
          refine Kd.R_lit_step (Kd.int .i64) _ 3 ?hg (N := 23) ?hd (xs := ([0, 1, 2, 7, 8, 255, t272] : List Int)) (inner := [.int .i64 0, .int .i64 1, .int .i64 2, .int .i64 7, .int .i64 8, .int .i64 255, .int .i64 t272]) (ok := fun _ => True) (okp := fun _ => True) ?hr ?hp (fun _ hk => hk) trivial (Below.refl _ _) (Nat.le_refl _) (by simp) ?_; (case hd => rfl); (case hg => rfl); (case hr => first | (go_simp; done) | (go_simp; rfl)); (case hp => exact (Reps.one (show Kd.M (Kd.int .i64) _ _ _ 0 [.int .i64 0] from rfl) (Reps.one (show Kd.M (Kd.int .i64) _ _ _ 1 [.int .i64 1] from rfl) (Reps.one (show Kd.M (Kd.int .i64) _ _ _ 2 [.int .i64 2] from rfl) (Reps.one (show Kd.M (Kd.int .i64) _ _ _ 7 [.int .i64 7] from rfl) (Reps.one (show Kd.M (Kd.int .i64) _ _ _ 8 [.int .i64 8] from rfl) (Reps.one (show Kd.M (Kd.int .i64) _ _ _ 255 [.int .i64 255] from rfl) (Reps.one (show Kd.M (Kd.int .i64) _ _ _ t272 [.int .i64 t272] from rfl) (Reps.none _ _)))))))))
          intro v275 w25 ho26 hb hg_ hnew_
          clear hg_ hnew_
          (first | rw [← Ny274.out] at ho26 | (simp only [Int.reduceToNat] at ho26; rw [← Ny274.out] at ho26))
          have n0_ := qM (Kd.R_elder' (qz HO_270001) (Kd.R_base ho26) hb)
          have n1_ := qM (Kd.R_elder' (qz HO_270002) (Kd.R_base ho26) hb)
          have n2_ := qM (Kd.R_lower (Kd.R_new' (Kd.R_new' ho26 (Kd.R_lt (qz HO_270001))) (Kd.R_lt (qz HO_270002))) (keep_size (w := w) (g := g) (row := none) (by repeat (first | (with_reducible first | exact HK.out | apply KeepBut.set_ | apply keep_drewN | apply keep_drew | apply keep_alloc | refine keep_far ?_ GW260.out _ | refine keep_far ?_ GW269.out _) | exact HK.out))))
          have n3_ := qM (blk_below (bz BK260) hb)
          have n4_ := qM (blk_below (bz BK269) hb)
          have n5_ := qM (IsS103.below (by repeat (first | (with_reducible first | exact HI0.out | apply IsS103.alloc | apply IsS103.drewN | apply IsS103.drew | apply IsS103.set_1 | refine IsS103.far ?_ NB0_260.out _ | refine IsS103.far ?_ NB0_269.out _) | exact HI0.out)) hb)
          have n6_ := qM (KeepBut.trans (by repeat (first | (with_reducible first | exact HK.out | apply KeepBut.set_ | apply keep_drewN | apply keep_drew | apply keep_alloc | refine keep_far ?_ GW260.out _ | refine keep_far ?_ GW269.out _) | exact HK.out)) (KeepBut.of_below hb g none) (.inl rfl))
          have n7_ := qM (below_step (by repeat (first | (with_reducible first | exact HB.out | apply yA | apply yN | apply yD | refine yS ?_ (IsS103.ge HI0.out) | refine yS ?_ GE260.out | refine yS ?_ GE269.out) | exact HB.out)) hb)
          clear HO_270001 HO_270002 BK260 BK269 HI0 HK HB
          revert n0_ n1_ n2_ n3_ n4_ n5_ n6_ n7_
          intro HO_270001 HO_270002 HO276 BK260 BK269 HI0 HK HB
          clear hb ho26
          obtain ⟨Ao27, co27, eo27⟩ := Kd.R_slice HO276.out
          subst eo27
          obtain ⟨ado27, fo27, _⟩ := Kd.at_int (qR HO276.out).2.2 0 (by decide) (by rw [Ny274.out]; simp)
          cases fo27
          refine hK.out _ _ ⟨(zC BK269.out 0).trans rfl, (zC BK269.out 1).trans rfl, (zC BK269.out 2).trans rfl, (zC BK269.out 3).trans rfl⟩ (fun hHeld => ?_)
          clear hK K
          refine norm_ (a' := ?_) ?_ ?_
          rotate_left
          ·show Act.put _ (some 23) _ = _
           simp only [Act.put, List.setIfInBounds_toArray, List.set_cons_zero, List.set_cons_succ, i64_w, i32_w]
           rfl
          refine one_ (i := 7) (N := some 25) #[true, true, true, true, true, true, true, true, false, false, false, false] rfl rfl (one_of HT_.out (by kernel_rfl)) (by decide) (fun K hK => ?_)
          refine goes_ Try.func73 (by kernel_rfl) rfl #[.pointer (some ⟨g, 0, none⟩), .int .i64 7] (by rfl) rfl rfl (by (try simp only [List.map_toArray, List.map_cons, List.map_nil]); first | done | rfl | (simp only [List.length_drop, List.length_take]; rfl)) ?_
          with_reducible refine (spec_l30Rd_pick.calls k1 g s0_0 t273 7 t277 t278 w0 _ ?side1 ?side2 A17.out).mono ?_
          (case side1 => repeat (first | (with_reducible first | exact HI0.out | apply IsS103.alloc | apply IsS103.drewN | apply IsS103.drew | apply IsS103.set_1 | refine IsS103.far ?_ NB0_260.out _ | refine IsS103.far ?_ NB0_269.out _) | exact HI0.out))
          (case side2 => repeat (first | (with_reducible first | exact HB.out | apply yA | apply yN | apply yD | refine yS ?_ (IsS103.ge HI0.out) | refine yS ?_ GE260.out | refine yS ?_ GE269.out) | exact HB.out))
          rintro e w28 ⟨rfl, hi, hb, hk⟩
          refine ⟨_, rfl, ?_⟩
          have n0_ := qM (Kd.R_mono (Kd.R_keep (IsS103.apart (show IsS103 w0 _ g s0_0 t273 from by repeat (first | (with_reducible first | exact HI0.out | apply IsS103.alloc | apply IsS103.drewN | apply IsS103.drew | apply IsS103.set_1 | refine IsS103.far ?_ NB0_260.out _ | refine IsS103.far ?_ NB0_269.out _) | exact HI0.out)) (qz HO_270001) (by decide)) hk (fun _ h => h.2)) (fun _ h => h.1))
          have n1_ := qM (Kd.R_mono (Kd.R_keep (IsS103.apart (show IsS103 w0 _ g s0_0 t273 from by repeat (first | (with_reducible first | exact HI0.out | apply IsS103.alloc | apply IsS103.drewN | apply IsS103.drew | apply IsS103.set_1 | refine IsS103.far ?_ NB0_260.out _ | refine IsS103.far ?_ NB0_269.out _) | exact HI0.out)) (qz HO_270002) (by decide)) hk (fun _ h => h.2)) (fun _ h => h.1))
          have n2_ := qM (KeepBut.blk hk (g' := gb260) (o := .cells #[.int .i64 0, .slice none 0 0, .slice none 0 0, .int .i64 0] 30 (0, 0)) (bz BK260) NB260_0.out (by simp))
          have n3_ := qM (KeepBut.blk hk (g' := gb269) (o := .cells #[.int .i64 t270, u270001, u270002, .int .i64 t268] 30 (0, 0)) (bz BK269) NB269_0.out (by simp))
          have n4_ := qM (Kd.R_mono (Kd.R_keep (IsS103.apart (show IsS103 w0 _ g s0_0 t273 from by repeat (first | (with_reducible first | exact HI0.out | apply IsS103.alloc | apply IsS103.drewN | apply IsS103.drew | apply IsS103.set_1 | refine IsS103.far ?_ NB0_260.out _ | refine IsS103.far ?_ NB0_269.out _) | exact HI0.out)) (qz HO276) (by decide)) hk (fun _ h => h.2)) (fun _ h => h.1))
          have n5_ := qM (KeepBut.trans (by repeat (first | (with_reducible first | exact HK.out | apply KeepBut.set_ | apply keep_drewN | apply keep_drew | apply keep_alloc | refine keep_far ?_ GW260.out _ | refine keep_far ?_ GW269.out _) | exact HK.out)) hk (.inl rfl))
          have n6_ := qM (hb)
          have n7_ := qM (hi)
          clear HO_270001 HO_270002 BK260 BK269 HO276 HK HB HI0
          revert n0_ n1_ n2_ n3_ n4_ n5_ n6_ n7_
          intro HO_270001 HO_270002 BK260 BK269 HO276 HK HB HI0
          (try clear hb)
          (try clear hb2)
          (try clear hk)
          (try clear hi)
          refine hK.out _ _ ⟨(zC BK269.out 0).trans rfl, (zC BK269.out 1).trans rfl, (zC BK269.out 2).trans rfl, (zC BK269.out 3).trans rfl⟩ (fun hHeld => ?_)
          clear hK K
          refine norm_ (a' := ?_) ?_ ?_
          rotate_left
          ·show Act.put _ (some 25) _ = _
           simp only [Act.put, List.setIfInBounds_toArray, List.set_cons_zero, List.set_cons_succ, i64_w, i32_w]
           rfl
          exact norm_ (by simp only [putAll, Act.put, List.setIfInBounds_toArray, List.set_cons_zero, List.set_cons_succ]) (hCont (.slice (some ado27) y274.length co27, ado27) _ ⟨hHeld, (by (with_reducible repeat (first | apply qA | apply qN | apply qD)); exact Kd.R_mono HO276.out (fun _ hk => ⟨hk.1.2, hk.2⟩)), (by (with_reducible repeat (first | apply qA | apply qN | apply qD)); exact Kd.R_mono HO_270001.out (fun _ hk => ⟨hk.2, hk.1⟩)), (by (with_reducible repeat (first | apply qA | apply qN | apply qD)); exact Kd.R_mono HO_270002.out (fun _ hk => ⟨hk.2, hk.1⟩)), ⟨_, rfl⟩, (bz BK260), (bz BK269), (by repeat (first | (with_reducible first | exact HI0.out | apply IsS103.alloc | apply IsS103.drewN | apply IsS103.drew | apply IsS103.set_1 | refine IsS103.far ?_ NB0_260.out _ | refine IsS103.far ?_ NB0_269.out _) | exact HI0.out)), (by repeat (first | (with_reducible first | exact HK.out | apply KeepBut.set_ | apply keep_drewN | apply keep_drew | apply keep_alloc | refine keep_far ?_ GW260.out _ | refine keep_far ?_ GW269.out _) | exact HK.out)), (by repeat (first | (with_reducible first | exact HB.out | apply yA | apply yN | apply yD | refine yS ?_ (IsS103.ge HI0.out) | refine yS ?_ GE260.out | refine yS ?_ GE269.out) | exact HB.out))⟩)
         ·skip
          refine goes_ Try.func73 (by kernel_rfl) rfl #[.pointer (some ⟨g, 0, none⟩), .int .i64 7] (by rfl) rfl rfl (by (try simp only [List.map_toArray, List.map_cons, List.map_nil]); first | done | rfl | (simp only [List.length_drop, List.length_take]; rfl)) ?_
          with_reducible refine (spec_l30Rd_pick.calls k1 g s0_0 t273 7 t277 t278 w0 _ ?side1 ?side2 A17.out).mono ?_
          (case side1 => repeat (first | (with_reducible first | exact HI0.out | apply IsS103.alloc | apply IsS103.drewN | apply IsS103.drew | apply IsS103.set_1 | refine IsS103.far ?_ NB0_260.out _ | refine IsS103.far ?_ NB0_269.out _) | exact HI0.out))
          (case side2 => repeat (first | (with_reducible first | exact HB.out | apply yA | apply yN | apply yD | refine yS ?_ (IsS103.ge HI0.out) | refine yS ?_ GE260.out | refine yS ?_ GE269.out) | exact HB.out))
          rintro e w25 ⟨rfl, hi, hb, hk⟩
          refine ⟨_, rfl, ?_⟩
          have n0_ := qM (Kd.R_mono (Kd.R_keep (IsS103.apart (show IsS103 w0 _ g s0_0 t273 from by repeat (first | (with_reducible first | exact HI0.out | apply IsS103.alloc | apply IsS103.drewN | apply IsS103.drew | apply IsS103.set_1 | refine IsS103.far ?_ NB0_260.out _ | refine IsS103.far ?_ NB0_269.out _) | exact HI0.out)) (qz HO_270001) (by decide)) hk (fun _ h => h.2)) (fun _ h => h.1))
          have n1_ := qM (Kd.R_mono (Kd.R_keep (IsS103.apart (show IsS103 w0 _ g s0_0 t273 from by repeat (first | (with_reducible first | exact HI0.out | apply IsS103.alloc | apply IsS103.drewN | apply IsS103.drew | apply IsS103.set_1 | refine IsS103.far ?_ NB0_260.out _ | refine IsS103.far ?_ NB0_269.out _) | exact HI0.out)) (qz HO_270002) (by decide)) hk (fun _ h => h.2)) (fun _ h => h.1))
          have n2_ := qM (KeepBut.blk hk (g' := gb260) (o := .cells #[.int .i64 0, .slice none 0 0, .slice none 0 0, .int .i64 0] 30 (0, 0)) (bz BK260) NB260_0.out (by simp))
          have n3_ := qM (KeepBut.blk hk (g' := gb269) (o := .cells #[.int .i64 t270, u270001, u270002, .int .i64 t268] 30 (0, 0)) (bz BK269) NB269_0.out (by simp))
          have n4_ := qM (KeepBut.trans (by repeat (first | (with_reducible first | exact HK.out | apply KeepBut.set_ | apply keep_drewN | apply keep_drew | apply keep_alloc | refine keep_far ?_ GW260.out _ | refine keep_far ?_ GW269.out _) | exact HK.out)) hk (.inl rfl))
          have n5_ := qM (hb)
          have n6_ := qM (hi)
          clear HO_270001 HO_270002 BK260 BK269 HK HB HI0
          revert n0_ n1_ n2_ n3_ n4_ n5_ n6_
          intro HO_270001 HO_270002 BK260 BK269 HK HB HI0
          (try clear hb)
          (try clear hb2)
          (try clear hk)
          (try clear hi)
          refine hK.out _ _ ⟨(zC BK269.out 0).trans rfl, (zC BK269.out 1).trans rfl, (zC BK269.out 2).trans rfl, (zC BK269.out 3).trans rfl⟩ (fun hHeld => ?_)
          clear hK K
          refine norm_ (a' := ?_) ?_ ?_
          rotate_left
          ·show Act.put _ (some 25) _ = _
           simp only [Act.put, List.setIfInBounds_toArray, List.set_cons_zero, List.set_cons_succ, i64_w, i32_w]
           rfl
          refine one_ (i := 5) (N := some 23) #[true, true, true, true, true, true, true, true, false, false, false, false] rfl rfl (one_of HT_.out (by kernel_rfl)) (by decide) (fun K hK => ?_)
          refine Kd.R_lit_step (Kd.int .i64) _ 3 ?hg (N := 23) ?hd (xs := ([0, 1, 2, 7, 8, 255, t272] : List Int)) (inner := [.int .i64 0, .int .i64 1, .int .i64 2, .int .i64 7, .int .i64 8, .int .i64 255, .int .i64 t272]) (ok := fun _ => True) (okp := fun _ => True) ?hr ?hp (fun _ hk => hk) trivial (Below.refl _ _) (Nat.le_refl _) (by simp) ?_; (case hd => rfl); (case hg => rfl); (case hr => first | (go_simp; done) | (go_simp; rfl)); (case hp => exact (Reps.one (show Kd.M (Kd.int .i64) _ _ _ 0 [.int .i64 0] from rfl) (Reps.one (show Kd.M (Kd.int .i64) _ _ _ 1 [.int .i64 1] from rfl) (Reps.one (show Kd.M (Kd.int .i64) _ _ _ 2 [.int .i64 2] from rfl) (Reps.one (show Kd.M (Kd.int .i64) _ _ _ 7 [.int .i64 7] from rfl) (Reps.one (show Kd.M (Kd.int .i64) _ _ _ 8 [.int .i64 8] from rfl) (Reps.one (show Kd.M (Kd.int .i64) _ _ _ 255 [.int .i64 255] from rfl) (Reps.one (show Kd.M (Kd.int .i64) _ _ _ t272 [.int .i64 t272] from rfl) (Reps.none _ _)))))))))
          intro v275 w26 ho27 hb hg_ hnew_
          clear hg_ hnew_
          (first | rw [← Ny274.out] at ho27 | (simp only [Int.reduceToNat] at ho27; rw [← Ny274.out] at ho27))
          have n0_ := qM (Kd.R_elder' (qz HO_270001) (Kd.R_base ho27) hb)
          have n1_ := qM (Kd.R_elder' (qz HO_270002) (Kd.R_base ho27) hb)
          have n2_ := qM (Kd.R_lower (Kd.R_new' (Kd.R_new' ho27 (Kd.R_lt (qz HO_270001))) (Kd.R_lt (qz HO_270002))) (keep_size (w := w) (g := g) (row := none) (by repeat (first | (with_reducible first | exact HK.out | apply KeepBut.set_ | apply keep_drewN | apply keep_drew | apply keep_alloc | refine keep_far ?_ GW260.out _ | refine keep_far ?_ GW269.out _) | exact HK.out))))
          have n3_ := qM (blk_below (bz BK260) hb)
          have n4_ := qM (blk_below (bz BK269) hb)
          have n5_ := qM (IsS103.below (by repeat (first | (with_reducible first | exact HI0.out | apply IsS103.alloc | apply IsS103.drewN | apply IsS103.drew | apply IsS103.set_1 | refine IsS103.far ?_ NB0_260.out _ | refine IsS103.far ?_ NB0_269.out _) | exact HI0.out)) hb)
          have n6_ := qM (KeepBut.trans (by repeat (first | (with_reducible first | exact HK.out | apply KeepBut.set_ | apply keep_drewN | apply keep_drew | apply keep_alloc | refine keep_far ?_ GW260.out _ | refine keep_far ?_ GW269.out _) | exact HK.out)) (KeepBut.of_below hb g none) (.inl rfl))
          have n7_ := qM (below_step (by repeat (first | (with_reducible first | exact HB.out | apply yA | apply yN | apply yD | refine yS ?_ (IsS103.ge HI0.out) | refine yS ?_ GE260.out | refine yS ?_ GE269.out) | exact HB.out)) hb)
          clear HO_270001 HO_270002 BK260 BK269 HI0 HK HB
          revert n0_ n1_ n2_ n3_ n4_ n5_ n6_ n7_
          intro HO_270001 HO_270002 HO276 BK260 BK269 HI0 HK HB
          clear hb ho27
          obtain ⟨Ao28, co28, eo28⟩ := Kd.R_slice HO276.out
          subst eo28
          obtain ⟨ado28, fo28, _⟩ := Kd.at_int (qR HO276.out).2.2 0 (by decide) (by rw [Ny274.out]; simp)
          cases fo28
          refine hK.out _ _ ⟨(zC BK269.out 0).trans rfl, (zC BK269.out 1).trans rfl, (zC BK269.out 2).trans rfl, (zC BK269.out 3).trans rfl⟩ (fun hHeld => ?_)
          clear hK K
          refine norm_ (a' := ?_) ?_ ?_
          rotate_left
          ·show Act.put _ (some 23) _ = _
           simp only [Act.put, List.setIfInBounds_toArray, List.set_cons_zero, List.set_cons_succ, i64_w, i32_w]
           rfl
          exact norm_ (by simp only [putAll, Act.put, List.setIfInBounds_toArray, List.set_cons_zero, List.set_cons_succ]) (hCont (.slice (some ado28) y274.length co28, ado28) _ ⟨hHeld, (by (with_reducible repeat (first | apply qA | apply qN | apply qD)); exact Kd.R_mono HO276.out (fun _ hk => ⟨hk.1.2, hk.2⟩)), (by (with_reducible repeat (first | apply qA | apply qN | apply qD)); exact Kd.R_mono HO_270001.out (fun _ hk => ⟨hk.2, hk.1⟩)), (by (with_reducible repeat (first | apply qA | apply qN | apply qD)); exact Kd.R_mono HO_270002.out (fun _ hk => ⟨hk.2, hk.1⟩)), ⟨_, rfl⟩, (bz BK260), (bz BK269), (by repeat (first | (with_reducible first | exact HI0.out | apply IsS103.alloc | apply IsS103.drewN | apply IsS103.drew | apply IsS103.set_1 | refine IsS103.far ?_ NB0_260.out _ | refine IsS103.far ?_ NB0_269.out _) | exact HI0.out)), (by repeat (first | (with_reducible first | exact HK.out | apply KeepBut.set_ | apply keep_drewN | apply keep_drew | apply keep_alloc | refine keep_far ?_ GW260.out _ | refine keep_far ?_ GW269.out _) | exact HK.out)), (by repeat (first | (with_reducible first | exact HB.out | apply yA | apply yN | apply yD | refine yS ?_ (IsS103.ge HI0.out) | refine yS ?_ GE260.out | refine yS ?_ GE269.out) | exact HB.out))⟩)
        rintro ⟨v275, adz_v275⟩ w29 ⟨hS_, h0_, h1_, h2_, h3_, h4_, h5_, h6_, h7_, h8_⟩
        have n0_ : Aside0 (Kd.R (Kd.int .i64) 3 w29 w.heap.size (fun k_ => some k_ ≠ (u270001 : Value).ownBlock ∧ some k_ ≠ (u270002 : Value).ownBlock) v275 y274) := ⟨h0_⟩
        have n1_ : Aside0 (Kd.R (Kd.int .i64) 3 w29 w.heap.size (fun k_ => some k_ ≠ (v275 : Value).ownBlock ∧ some k_ ≠ (u270002 : Value).ownBlock) u270001 x270001_1) := ⟨h1_⟩
        have n2_ : Aside0 (Kd.R (Kd.int .i64) 3 w29 w.heap.size (fun k_ => some k_ ≠ (v275 : Value).ownBlock ∧ some k_ ≠ (u270001 : Value).ownBlock) u270002 x270002_1) := ⟨h2_⟩
        have n3_ : Aside0 (∃ c_, (v275 : Value) = .slice (some adz_v275) y274.length c_) := ⟨h3_⟩
        have n4_ : Aside0 (w29.heap[gb260]? = some (.cells #[.int .i64 0, .slice none 0 0, .slice none 0 0, .int .i64 0] 30 (0, 0))) := ⟨h4_⟩
        have n5_ : Aside0 (w29.heap[gb269]? = some (.cells #[.int .i64 t270, u270001, u270002, .int .i64 t268] 30 (0, 0))) := ⟨h5_⟩
        have n6_ : Aside0 (IsS103 w0 w29 g s0_0 t278) := ⟨h6_⟩
        have n7_ : Aside0 (KeepBut w w29 g none) := ⟨h7_⟩
        have n8_ : Aside0 (Below w0.heap.size w0 w29) := ⟨h8_⟩
        clear HO_270001 HO_270002 BK260 BK269 HI0 HK HB h0_ h1_ h2_ h3_ h4_ h5_ h6_ h7_ h8_
        revert n0_ n1_ n2_ n3_ n4_ n5_ n6_ n7_ n8_
        intro HO276 HO_270001 HO_270002 HA_HO276 BK260 BK269 HI0 HK HB
        have hHeld : w29.cell? ⟨gb269, 0, none⟩ = some (.int .i64 t270) ∧ w29.cell? ⟨gb269, 1, none⟩ = some (u270001) ∧ w29.cell? ⟨gb269, 2, none⟩ = some (u270002) ∧ w29.cell? ⟨gb269, 3, none⟩ = some (.int .i64 t268) := hS_
        obtain ⟨co30, eo30⟩ := HA_HO276.out
        clear HA_HO276
        subst eo30
        have p22 : 0 ≤ (x6_1 : Int) := of_decide_eq_true (by first | (with_reducible assumption) | assumption)
        have q22 : (x6_1 : Int) < ((x270001_1.length : Int) : Int) := of_decide_eq_true (by first | (with_reducible assumption) | assumption)
        obtain ⟨go22, co22, eo22, gb22, gl22, cl22, HG22⟩ := Kd.R_form HO_270001.out (by omega)
        (first | cases eo22 | (injection eo22 with ea_ en_ ec_; (first | subst ea_ | (injection ea_ with ea_; subst ea_)); subst ec_; clear en_))
        have GB22 := qM gb22
        have GG22 := qM HG22
        clear gb22 gl22 HG22
        obtain ⟨hx22_0, hf22_0⟩ := Kd.R_celln 0 HO_270001.out (x6_1 : Int) p22 q22
        replace p22 := eq_true p22
        replace q22 := eq_true q22
        have HN0_go22 := qM (show g ≠ go22 from by have h_ := IsS103.own_ne HI0.out HO_270001.out (by decide); intro e_; exact h_ (by rw [e_]; rfl))
        have HP31 := Kd.R_putn HO_270001.out (x6_1 : Int) (rd y274 t277)
        rw [← Ny280.out] at HP31
        have HQ31 := qM HP31
        clear HP31
        refine norm_ (a' := ?_) ?_ ?_
        rotate_left
        ·simp only [putAll, Act.put, List.setIfInBounds_toArray, List.set_cons_zero, List.set_cons_succ]
         rfl
        refine pure_ (i := 8) (N := some 26) (v := ?_) (a' := ?_) #[true, true, true, true, true, true, true, true, true, false, false, false] rfl rfl (any_of HT_.out (by kernel_rfl)) (fun _ _ _ h => h) (Or.inl ⟨by rfl, ?_⟩) ?_ ?_
        rotate_left
        ·intro w'
         go_simp
         with_reducible rfl
        rotate_left
        ·simp only [Act.put, List.setIfInBounds_toArray, List.set_cons_zero, List.set_cons_succ, i64_w, i32_w]
         rfl
        refine one_ (i := 9) (N := some 27) #[true, true, true, true, true, true, true, true, true, true, false, false] rfl rfl (one_of HT_.out (by kernel_rfl)) (by decide) (fun K hK => ?_)
        (have p279 : 0 ≤ (t277 : Int) := of_decide_eq_true (by first | (with_reducible assumption) | assumption); have q279 : t277 < (y274.length : Int) := of_decide_eq_true (by first | (with_reducible assumption) | assumption); obtain ⟨ad279, e279, hx279_0⟩ := Kd.at_int (qR HO276.out).2.2 t277 p279 q279; obtain rfl : adz_v275 = ad279 := (by injection e279))
        refine value_ (w1 := ?_) (v := ?_) (by rfl) rfl ?_ ?_
        rotate_left 2
        ·go_simp
         constructor
         ·rfl
         ·rfl
        clear hx279_0
        refine hK.out _ _ ⟨(zC BK269.out 0).trans rfl, (zC BK269.out 1).trans rfl, (zC BK269.out 2).trans rfl, (zC BK269.out 3).trans rfl⟩ (fun hHeld => ?_)
        clear hK K
        refine norm_ (a' := ?_) ?_ ?_
        rotate_left
        ·show Act.put _ (some 27) _ = _
         simp only [Act.put, List.setIfInBounds_toArray, List.set_cons_zero, List.set_cons_succ, i64_w, i32_w]
         rfl
        refine pure_ (i := 10) (N := some 28) (v := ?_) (a' := ?_) #[true, true, true, true, true, true, true, true, true, true, true, false] rfl rfl (any_of HT_.out (by kernel_rfl)) (fun _ _ _ h => h) (Or.inl ⟨by rfl, ?_⟩) ?_ ?_
        rotate_left
        ·intro w'
         go_simp
         with_reducible rfl
        rotate_left
        ·simp only [Act.put, List.setIfInBounds_toArray, List.set_cons_zero, List.set_cons_succ, i64_w, i32_w]
         rfl
        refine last_ (i := 11) (N := none) #[true, true, true, true, true, true, true, true, true, true, true, true] rfl rfl (one_of HT_.out (by kernel_rfl)) (by decide) (fun K hK => ?_)
        refine skip_ (w1 := ?_) (by rfl) rfl ?_ ?_
        rotate_left
        ·go_simp
         rfl
        refine hK.out _ _ ?_
        clear hK K
        refine done_ (done_of HT_.out (by kernel_rfl)) ?_
        try go_wp2
        go_roundg k1
        case measure => have := HK1.out; omega
        case rel => exact ⟨(wrap64 (x6_1 + 1)), (t278), (y280), (x270002_1), (.slice (some ⟨go22, 0, none⟩) x270001_1.length co22), (u270002), (by first | rfl | (simp; done) | (simp [*]; done)), H', ⟨by have := HK1.out; omega⟩, ⟨by (with_reducible repeat (first | apply qA | apply qN | apply qD)); exact Kd.R_mono HQ31.out (fun _ hk => hk.2)⟩, ⟨by (with_reducible repeat (first | apply qA | apply qN | apply qD)); exact Kd.R_mono (qF (p := ⟨go22, (x6_1 : Int).toNat, none⟩) (Kd.R_mono HO_270002.out (fun k_ hk => (⟨hk, fun e_ => hk.2 (by rw [e_]; rfl)⟩ : _ ∧ k_ ≠ go22))) (fun _ hk => hk.2) (.int .i64 (rd y274 t277))) (fun _ hk => hk.1.2)⟩, ⟨by (with_reducible repeat (first | refine zN ?_ _ | refine zD ?_ | refine zA ?_ _)); refine blk_far ?_ (by have h_ := Kd.R_ne HO_270001.out BK260.out (by decide); intro e_; exact h_ (by rw [e_]; rfl)) _; (with_reducible repeat (first | refine zN ?_ _ | refine zD ?_ | refine zA ?_ _)); exact BK260.out⟩, ⟨by (with_reducible repeat (first | refine zN ?_ _ | refine zD ?_ | refine zA ?_ _)); refine blk_far ?_ (by have h_ := Kd.R_ne HO_270001.out BK269.out (by decide); intro e_; exact h_ (by rw [e_]; rfl)) _; (with_reducible repeat (first | refine zN ?_ _ | refine zD ?_ | refine zA ?_ _)); exact BK269.out⟩, ⟨by repeat (first | (with_reducible first | exact HI0.out | apply IsS103.alloc | apply IsS103.drewN | apply IsS103.drew | apply IsS103.set_1 | refine IsS103.far ?_ HN0_go22.out _ | refine IsS103.far ?_ NB0_260.out _ | refine IsS103.far ?_ NB0_269.out _) | exact HI0.out)⟩, ⟨by repeat (first | (with_reducible first | exact HK.out | apply KeepBut.set_ | apply keep_drewN | apply keep_drew | apply keep_alloc | refine keep_far ?_ GB22.out _ | refine keep_far ?_ GW260.out _ | refine keep_far ?_ GW269.out _) | exact HK.out)⟩, ⟨by repeat (first | (with_reducible first | exact HB.out | apply yA | apply yN | apply yD | refine yS ?_ (Nat.le_trans HL.out GB22.out) | refine yS ?_ (IsS103.ge HI0.out) | refine yS ?_ GE260.out | refine yS ?_ GE269.out) | exact HB.out)⟩⟩
       ·rw [if_neg c21] at H
        exact absurd H (by simp)
      ·rw [if_neg c20] at H
       exact absurd H (by simp)
     ·rw [if_neg c19] at H
      exact absurd H (by simp)
    ·rw [if_neg c18] at H
     exact absurd H (by simp)
   ·rw [if_neg c15] at H
    have c15b0 : decide (x6_1 < 4) = false := decide_eq_false c15
    clear c15
    have H' := qM H
    clear H
    go_wp2
    go_loopg [7] k1 (fun kq v7 w' => ∃ (x7_2 : Int) (x1001_2 : Int) (x270001_2 : List Int) (x270002_2 : List Int) (u270001 : Value) (u270002 : Value), v7 = .int .i64 x7_2 ∧ Aside0 (spec_l31State.l1 kq x7_2 s0_0 x1001_2 t270 x270001_2 x270002_2 t268 = some (r1, r2, r3, r4, r5)) ∧ Aside0 (kq ≤ k1) ∧ Aside0 (Kd.R (Kd.int .i64) 3 w' w.heap.size (fun k_ => some k_ ≠ (u270002 : Value).ownBlock) u270001 x270001_2) ∧ Aside0 (Kd.R (Kd.int .i64) 3 w' w.heap.size (fun k_ => some k_ ≠ (u270001 : Value).ownBlock) u270002 x270002_2) ∧ Aside0 (w'.heap[gb260]? = some (.cells #[.int .i64 0, (.slice none 0 0), (.slice none 0 0), .int .i64 0] 30 (0, 0))) ∧ Aside0 (w'.heap[gb269]? = some (.cells #[.int .i64 t270, u270001, u270002, .int .i64 t268] 30 (0, 0))) ∧ Aside0 (IsS103 w0 w' g s0_0 x1001_2) ∧ Aside0 (KeepBut w w' g none) ∧ Aside0 (Below w0.heap.size w0 w'))
    case atStart => exact ⟨(0), (x1001_1), (x270001_1), (x270002_1), (u270001), (u270002), (by first | rfl | (simp; done) | (simp [*]; done)), H', ⟨Nat.le_refl _⟩, ⟨by (with_reducible repeat (first | apply qA | apply qN | apply qD)); exact HO_270001.out⟩, ⟨by (with_reducible repeat (first | apply qA | apply qN | apply qD)); exact HO_270002.out⟩, ⟨by (with_reducible repeat (first | refine zN ?_ _ | refine zD ?_ | refine zA ?_ _)); exact BK260.out⟩, ⟨by (with_reducible repeat (first | refine zN ?_ _ | refine zD ?_ | refine zA ?_ _)); exact BK269.out⟩, ⟨by repeat (first | (with_reducible first | exact HI0.out | apply IsS103.alloc | apply IsS103.drewN | apply IsS103.drew | apply IsS103.set_1 | refine IsS103.far ?_ NB0_260.out _ | refine IsS103.far ?_ NB0_269.out _) | exact HI0.out)⟩, ⟨by repeat (first | (with_reducible first | exact HK.out | apply KeepBut.set_ | apply keep_drewN | apply keep_drew | apply keep_alloc | refine keep_far ?_ GW260.out _ | refine keep_far ?_ GW269.out _) | exact HK.out)⟩, ⟨by repeat (first | (with_reducible first | exact HB.out | apply yA | apply yN | apply yD | refine yS ?_ (IsS103.ge HI0.out) | refine yS ?_ GE260.out | refine yS ?_ GE269.out) | exact HB.out)⟩⟩
    case round =>
     clear H'
     try clear c1
     try clear c2
     try clear p2
     try clear q2
     try clear hx2
     try clear qi2
     try clear hf2
     try clear p6
     try clear c7
     try clear c8
     try clear c9
     try clear c15
     try clear c15b0
     try clear c18
     try clear c18b0
     try clear c19
     try clear c19b0
     try clear c20
     try clear c20b0
     try clear c21
     try clear c21b0
     try clear p22
     try clear q22
     try clear hx22
     try clear hf22
     try clear c25
     try clear p27
     try clear q27
     try clear hx27
     try clear qi27
     try clear hcz10_0
     try clear hcz10_1
     try clear hcz10_2
     try clear hcz10_3
     try clear hcz14_0
     try clear hcz14_1
     try clear hcz14_2
     try clear hcz14_3
     try clear hfz10_0
     try clear hfz10_1
     try clear hfz10_2
     try clear hfz10_3
     try clear hfz14_0
     try clear hfz14_1
     try clear hfz14_2
     try clear hfz14_3
     try clear hx22_0
     try clear hx279_0
     try clear p2
     try clear p22
     try clear p279
     try clear p6
     try clear q22
     try clear q279
     obtain ⟨x7_2, x1001_2, x270001_2, x270002_2, u270001, u270002, rfl, HA, HK2, HO_270001, HO_270002, BK260, BK269, HI0, HK, HB⟩ := hrel
     cases gk with
     | zero => exact absurd HA.out (by simp [spec_l31State.l1])
     | succ k2 =>
      have H := HA.out
      clear HA
      simp only [spec_l31State.l1] at H
      by_cases c32 : x7_2 < 8
      ·rw [if_pos c32] at H
       have c32b0 : decide (x7_2 < 8) = true := decide_eq_true c32
       clear c32
       replace H := Option.bind_eq_some_iff.mp H
       obtain ⟨⟨t281, t282⟩, A330, H⟩ := H
       replace H : (if 0 ≤ x7_2 then (if x7_2 < (x270002_2.length : Int) then (spec_l31State.l1 k2 (wrap64 (x7_2 + 1)) s0_0 t282 t270 x270001_2 (x270002_2.set (x7_2 : Int).toNat t281) t268) else (none)) else (none)) = some (r1, r2, r3, r4, r5) := H
       have A33 := qM A330
       clear A330
       by_cases c34 : 0 ≤ x7_2
       ·rw [if_pos c34] at H
        have c34b0 : decide (0 ≤ x7_2) = true := decide_eq_true c34
        clear c34
        by_cases c35 : x7_2 < (x270002_2.length : Int)
        ·rw [if_pos c35] at H
         have c35b0 : decide (x7_2 < (x270002_2.length : Int)) = true := decide_eq_true c35
         clear c35
         obtain ⟨y283, hy283⟩ : ∃ y_ : List Int, y_ = (x270002_2.set (x7_2 : Int).toNat t281) := ⟨_, rfl⟩
         replace H : (spec_l31State.l1 k2 (wrap64 (x7_2 + 1)) s0_0 t282 t270 x270001_2 y283 t268) = some (r1, r2, r3, r4, r5) := by first | (rw [hy283]; with_reducible exact H) | (have H2_ := (Option.bind_some _ _).symm.trans H; rw [hy283]; with_reducible exact H2_) | (have H2_ := (Option.bind_some _ _).symm.trans H; with_reducible exact H2_) | with_reducible exact H | (rw [hy283]; exact H) | exact H
         have Ny283 := qM hy283
         clear hy283
         have H' := qM H
         clear H
         try go_wp2
         have n0_ := qM (qD HO_270001.out)
         have n1_ := qM (qD HO_270002.out)
         have n2_ := qM (zD BK260.out)
         have n3_ := qM (zD BK269.out)
         have n4_ := qM (IsS103.drew HI0.out)
         have n5_ := qM (keep_drew HK.out)
         have n6_ := qM (yD HB.out)
         clear HO_270001 HO_270002 BK260 BK269 HI0 HK HB
         revert n0_ n1_ n2_ n3_ n4_ n5_ n6_
         intro HO_270001 HO_270002 BK260 BK269 HI0 HK HB
         refine start_ (n := 7) (S := fun w' => w'.cell? ⟨gb269, 0, none⟩ = some (.int .i64 t270) ∧ w'.cell? ⟨gb269, 1, none⟩ = some (u270001) ∧ w'.cell? ⟨gb269, 2, none⟩ = some (u270002) ∧ w'.cell? ⟨gb269, 3, none⟩ = some (.int .i64 t268)) (ds := [6]) #[false, false, false, false, false, false, false] (by kernel_rfl) rfl rfl ⟨(zC BK269.out 0).trans rfl, (zC BK269.out 1).trans rfl, (zC BK269.out 2).trans rfl, (zC BK269.out 3).trans rfl⟩ (fun hHeld => ?_)
         generalize wr.drew = w37 at HO_270001 HO_270002 BK260 BK269 HI0 HK HB hHeld ⊢
         refine pure_ (i := 0) (N := some 33) (v := ?_) (a' := ?_) #[true, false, false, false, false, false, false] rfl rfl (by kernel_rfl) (fun _ _ _ h => h) (Or.inl ⟨by rfl, ?_⟩) ?_ ?_
         rotate_left
         ·intro w'
          go_simp
          with_reducible rfl
         rotate_left
         ·simp only [Act.put, List.setIfInBounds_toArray, List.set_cons_zero, List.set_cons_succ, i64_w, i32_w]
          rfl
         refine pure_ (i := 2) (N := some 35) (v := ?_) (a' := ?_) #[true, false, true, false, false, false, false] rfl rfl (by kernel_rfl) (fun _ _ _ h => h) (Or.inl ⟨by rfl, ?_⟩) ?_ ?_
         rotate_left
         ·intro w'
          go_simp
          with_reducible rfl
         rotate_left
         ·simp only [Act.put, List.setIfInBounds_toArray, List.set_cons_zero, List.set_cons_succ, i64_w, i32_w]
          rfl
         refine pure_ (i := 3) (N := some 36) (v := ?_) (a' := ?_) #[true, false, true, true, false, false, false] rfl rfl (by kernel_rfl) (fun _ _ _ h => h) (Or.inl ⟨by rfl, ?_⟩) ?_ ?_
         rotate_left
         ·intro w'
          go_simp
          with_reducible rfl
         rotate_left
         ·simp only [Act.put, List.setIfInBounds_toArray, List.set_cons_zero, List.set_cons_succ, i64_w, i32_w]
          rfl
         refine take_ (i := 1) (N := some 34) (v := ?_) (a' := ?_) #[true, true, true, true, false, false, false] rfl rfl (by kernel_rfl) (fun _ _ _ h => h) (Or.inl ⟨by rfl, ?_⟩) hHeld ?_ ?_
         rotate_left
         ·rintro w' ⟨s0, s1, s2, s3⟩
          go_simp
          with_reducible rfl
         rotate_left
         ·simp only [Act.put, List.setIfInBounds_toArray, List.set_cons_zero, List.set_cons_succ, i64_w, i32_w]
          rfl
         refine one_ (i := 4) (N := some 37) #[true, true, true, true, true, false, false] rfl rfl (by kernel_rfl) (by decide) (fun K hK => ?_)
         refine goes_ Try.func73 (by kernel_rfl) rfl #[.pointer (some ⟨g, 0, none⟩), .int .i64 256] (by rfl) rfl rfl (by (try simp only [List.map_toArray, List.map_cons, List.map_nil]); first | done | rfl | (simp only [List.length_drop, List.length_take]; rfl)) ?_
         with_reducible refine (spec_l30Rd_pick.calls k2 g s0_0 x1001_2 256 t281 t282 w0 _ ?side1 ?side2 A33.out).mono ?_
         (case side1 => repeat (first | (with_reducible first | exact HI0.out | apply IsS103.alloc | apply IsS103.drewN | apply IsS103.drew | apply IsS103.set_1 | refine IsS103.far ?_ NB0_260.out _ | refine IsS103.far ?_ NB0_269.out _) | exact HI0.out))
         (case side2 => repeat (first | (with_reducible first | exact HB.out | apply yA | apply yN | apply yD | refine yS ?_ (IsS103.ge HI0.out) | refine yS ?_ GE260.out | refine yS ?_ GE269.out) | exact HB.out))
         rintro e w38 ⟨rfl, hi, hb, hk⟩
         refine ⟨_, rfl, ?_⟩
         have n0_ := qM (Kd.R_mono (Kd.R_keep (IsS103.apart (show IsS103 w0 _ g s0_0 x1001_2 from by repeat (first | (with_reducible first | exact HI0.out | apply IsS103.alloc | apply IsS103.drewN | apply IsS103.drew | apply IsS103.set_1 | refine IsS103.far ?_ NB0_260.out _ | refine IsS103.far ?_ NB0_269.out _) | exact HI0.out)) (qz HO_270001) (by decide)) hk (fun _ h => h.2)) (fun _ h => h.1))
         have n1_ := qM (Kd.R_mono (Kd.R_keep (IsS103.apart (show IsS103 w0 _ g s0_0 x1001_2 from by repeat (first | (with_reducible first | exact HI0.out | apply IsS103.alloc | apply IsS103.drewN | apply IsS103.drew | apply IsS103.set_1 | refine IsS103.far ?_ NB0_260.out _ | refine IsS103.far ?_ NB0_269.out _) | exact HI0.out)) (qz HO_270002) (by decide)) hk (fun _ h => h.2)) (fun _ h => h.1))
         have n2_ := qM (KeepBut.blk hk (g' := gb260) (o := .cells #[.int .i64 0, .slice none 0 0, .slice none 0 0, .int .i64 0] 30 (0, 0)) (bz BK260) NB260_0.out (by simp))
         have n3_ := qM (KeepBut.blk hk (g' := gb269) (o := .cells #[.int .i64 t270, u270001, u270002, .int .i64 t268] 30 (0, 0)) (bz BK269) NB269_0.out (by simp))
         have n4_ := qM (KeepBut.trans (by repeat (first | (with_reducible first | exact HK.out | apply KeepBut.set_ | apply keep_drewN | apply keep_drew | apply keep_alloc | refine keep_far ?_ GW260.out _ | refine keep_far ?_ GW269.out _) | exact HK.out)) hk (.inl rfl))
         have n5_ := qM (hb)
         have n6_ := qM (hi)
         clear HO_270001 HO_270002 BK260 BK269 HK HB HI0
         revert n0_ n1_ n2_ n3_ n4_ n5_ n6_
         intro HO_270001 HO_270002 BK260 BK269 HK HB HI0
         (try clear hb)
         (try clear hb2)
         (try clear hk)
         (try clear hi)
         have p36 : 0 ≤ (x7_2 : Int) := of_decide_eq_true (by first | (with_reducible assumption) | assumption)
         have q36 : (x7_2 : Int) < ((x270002_2.length : Int) : Int) := of_decide_eq_true (by first | (with_reducible assumption) | assumption)
         obtain ⟨go36, co36, eo36, gb36, gl36, cl36, HG36⟩ := Kd.R_form HO_270002.out (by omega)
         (first | cases eo36 | (injection eo36 with ea_ en_ ec_; (first | subst ea_ | (injection ea_ with ea_; subst ea_)); subst ec_; clear en_))
         have GB36 := qM gb36
         have GG36 := qM HG36
         clear gb36 gl36 HG36
         obtain ⟨hx36_0, hf36_0⟩ := Kd.R_celln 0 HO_270002.out (x7_2 : Int) p36 q36
         replace p36 := eq_true p36
         replace q36 := eq_true q36
         have HN0_go36 := qM (show g ≠ go36 from by have h_ := IsS103.own_ne HI0.out HO_270002.out (by decide); intro e_; exact h_ (by rw [e_]; rfl))
         have HP39 := Kd.R_putn HO_270002.out (x7_2 : Int) t281
         rw [← Ny283.out] at HP39
         have HQ39 := qM HP39
         clear HP39
         refine hK.out _ _ ⟨(zC BK269.out 0).trans rfl, (zC BK269.out 1).trans rfl, (zC BK269.out 2).trans rfl, (zC BK269.out 3).trans rfl⟩ (fun hHeld => ?_)
         clear hK K
         refine norm_ (a' := ?_) ?_ ?_
         rotate_left
         ·show Act.put _ (some 37) _ = _
          simp only [Act.put, List.setIfInBounds_toArray, List.set_cons_zero, List.set_cons_succ, i64_w, i32_w]
          rfl
         refine pure_ (i := 5) (N := some 38) (v := ?_) (a' := ?_) #[true, true, true, true, true, true, false] rfl rfl (by kernel_rfl) (fun _ _ _ h => h) (Or.inl ⟨by rfl, ?_⟩) ?_ ?_
         rotate_left
         ·intro w'
          go_simp
          with_reducible rfl
         rotate_left
         ·simp only [Act.put, List.setIfInBounds_toArray, List.set_cons_zero, List.set_cons_succ, i64_w, i32_w]
          rfl
         refine last_ (i := 6) (N := none) #[true, true, true, true, true, true, true] rfl rfl (by kernel_rfl) (by decide) (fun K hK => ?_)
         refine skip_ (w1 := ?_) (by rfl) rfl ?_ ?_
         rotate_left
         ·go_simp
          rfl
         refine hK.out _ _ ?_
         clear hK K
         refine done_ (by kernel_rfl) ?_
         try go_wp2
         go_roundg k2
         case measure => have := HK1.out; have := HK2.out; omega
         case rel => exact ⟨(wrap64 (x7_2 + 1)), (t282), (x270001_2), (y283), (u270001), (.slice (some ⟨go36, 0, none⟩) x270002_2.length co36), (by first | rfl | (simp; done) | (simp [*]; done)), H', ⟨by have := HK1.out; have := HK2.out; omega⟩, ⟨by (with_reducible repeat (first | apply qA | apply qN | apply qD)); exact Kd.R_mono (qF (p := ⟨go36, (x7_2 : Int).toNat, none⟩) (Kd.R_mono HO_270001.out (fun k_ hk => (⟨hk, fun e_ => hk (by rw [e_]; rfl)⟩ : _ ∧ k_ ≠ go36))) (fun _ hk => hk.2) (.int .i64 t281)) (fun _ hk => hk.1)⟩, ⟨by (with_reducible repeat (first | apply qA | apply qN | apply qD)); exact HQ39.out⟩, ⟨by (with_reducible repeat (first | refine zN ?_ _ | refine zD ?_ | refine zA ?_ _)); refine blk_far ?_ (by have h_ := Kd.R_ne HO_270002.out BK260.out (by decide); intro e_; exact h_ (by rw [e_]; rfl)) _; (with_reducible repeat (first | refine zN ?_ _ | refine zD ?_ | refine zA ?_ _)); exact BK260.out⟩, ⟨by (with_reducible repeat (first | refine zN ?_ _ | refine zD ?_ | refine zA ?_ _)); refine blk_far ?_ (by have h_ := Kd.R_ne HO_270002.out BK269.out (by decide); intro e_; exact h_ (by rw [e_]; rfl)) _; (with_reducible repeat (first | refine zN ?_ _ | refine zD ?_ | refine zA ?_ _)); exact BK269.out⟩, ⟨by repeat (first | (with_reducible first | exact HI0.out | apply IsS103.alloc | apply IsS103.drewN | apply IsS103.drew | apply IsS103.set_1 | refine IsS103.far ?_ HN0_go36.out _ | refine IsS103.far ?_ NB0_260.out _ | refine IsS103.far ?_ NB0_269.out _) | exact HI0.out)⟩, ⟨by repeat (first | (with_reducible first | exact HK.out | apply KeepBut.set_ | apply keep_drewN | apply keep_drew | apply keep_alloc | refine keep_far ?_ GB36.out _ | refine keep_far ?_ GW260.out _ | refine keep_far ?_ GW269.out _) | exact HK.out)⟩, ⟨by repeat (first | (with_reducible first | exact HB.out | apply yA | apply yN | apply yD | refine yS ?_ (Nat.le_trans HL.out GB36.out) | refine yS ?_ (IsS103.ge HI0.out) | refine yS ?_ GE260.out | refine yS ?_ GE269.out) | exact HB.out)⟩⟩
        ·rw [if_neg c35] at H
         exact absurd H (by simp)
       ·rw [if_neg c34] at H
        exact absurd H (by simp)
      ·rw [if_neg c32] at H
       have c32b0 : decide (x7_2 < 8) = false := decide_eq_false c32
       clear c32
       replace H := Option.bind_eq_some_iff.mp H
       obtain ⟨⟨t284, t285⟩, A400, H⟩ := H
       replace H : (if t284 = 0 then ((spec_l30Rd_pick.f k2 s0_0 t285 3).bind fun bt286 => (spec_l31State.j2 k2 s0_0 bt286.2 t270 x270001_2 x270002_2 bt286.1)) else (spec_l31State.j2 k2 s0_0 t285 t270 x270001_2 x270002_2 t268)) = some (r1, r2, r3, r4, r5) := H
       have A40 := qM A400
       clear A400
       have HC41 := qM H
       clear H
       go_upto_if 41 with (first | ((with_reducible refine gate_callee (f := 73) rfl ?_); refine goesL_ (some 40) rfl rfl Try.func73 (by kernel_rfl) rfl #[.pointer (some ⟨g, 0, none⟩), .int .i64 8] rfl (by (try simp only [List.map_toArray, List.map_cons, List.map_nil]); first | done | rfl | (simp only [List.length_drop, List.length_take]; rfl)) ?_; (with_reducible refine (spec_l30Rd_pick.calls k2 g s0_0 x1001_2 8 t284 t285 w0 _ ?side1 ?side2 A40.out).mono ?_); (case side1 => repeat (first | (with_reducible first | exact HI0.out | apply IsS103.alloc | apply IsS103.drewN | apply IsS103.drew | apply IsS103.set_1 | refine IsS103.far ?_ NB0_260.out _ | refine IsS103.far ?_ NB0_269.out _) | exact HI0.out)); (case side2 => repeat (first | (with_reducible first | exact HB.out | apply yA | apply yN | apply yD | refine yS ?_ (IsS103.ge HI0.out) | refine yS ?_ GE260.out | refine yS ?_ GE269.out) | exact HB.out)); rintro e w42 ⟨rfl, hi, hb, hk⟩; refine ⟨_, rfl, ?_⟩; have n0_ := qM (Kd.R_mono (Kd.R_keep (IsS103.apart (show IsS103 w0 _ g s0_0 x1001_2 from by repeat (first | (with_reducible first | exact HI0.out | apply IsS103.alloc | apply IsS103.drewN | apply IsS103.drew | apply IsS103.set_1 | refine IsS103.far ?_ NB0_260.out _ | refine IsS103.far ?_ NB0_269.out _) | exact HI0.out)) (qz HO_270001) (by decide)) hk (fun _ h => h.2)) (fun _ h => h.1)); have n1_ := qM (Kd.R_mono (Kd.R_keep (IsS103.apart (show IsS103 w0 _ g s0_0 x1001_2 from by repeat (first | (with_reducible first | exact HI0.out | apply IsS103.alloc | apply IsS103.drewN | apply IsS103.drew | apply IsS103.set_1 | refine IsS103.far ?_ NB0_260.out _ | refine IsS103.far ?_ NB0_269.out _) | exact HI0.out)) (qz HO_270002) (by decide)) hk (fun _ h => h.2)) (fun _ h => h.1)); have n2_ := qM (KeepBut.blk hk (g' := gb260) (o := .cells #[.int .i64 0, .slice none 0 0, .slice none 0 0, .int .i64 0] 30 (0, 0)) (bz BK260) NB260_0.out (by simp)); have n3_ := qM (KeepBut.blk hk (g' := gb269) (o := .cells #[.int .i64 t270, u270001, u270002, .int .i64 t268] 30 (0, 0)) (bz BK269) NB269_0.out (by simp)); have n4_ := qM (KeepBut.trans (by repeat (first | (with_reducible first | exact HK.out | apply KeepBut.set_ | apply keep_drewN | apply keep_drew | apply keep_alloc | refine keep_far ?_ GW260.out _ | refine keep_far ?_ GW269.out _) | exact HK.out)) hk (.inl rfl)); have n5_ := qM (hb); have n6_ := qM (hi); clear HO_270001 HO_270002 BK260 BK269 HK HB HI0; revert n0_ n1_ n2_ n3_ n4_ n5_ n6_; intro HO_270001 HO_270002 BK260 BK269 HK HB HI0; (try clear hb); (try clear hb2); (try clear hk); (try clear hi)))
       (try simp only [Act.put, List.setIfInBounds_toArray, List.set_cons_zero, List.set_cons_succ])
       go_cut [] (fun wc => ∃ (kq : Nat) (x1001_40 : Int) (x270003_40 : Int), Aside0 (spec_l31State.j2 kq s0_0 x1001_40 t270 x270001_2 x270002_2 x270003_40 = some (r1, r2, r3, r4, r5)) ∧ Aside0 (kq ≤ k2) ∧ Aside0 (Kd.R (Kd.int .i64) 3 wc w.heap.size (fun k_ => some k_ ≠ (u270002 : Value).ownBlock) u270001 x270001_2) ∧ Aside0 (Kd.R (Kd.int .i64) 3 wc w.heap.size (fun k_ => some k_ ≠ (u270001 : Value).ownBlock) u270002 x270002_2) ∧ Aside0 (wc.heap[gb260]? = some (.cells #[.int .i64 0, (.slice none 0 0), (.slice none 0 0), .int .i64 0] 30 (0, 0))) ∧ Aside0 (wc.heap[gb269]? = some (.cells #[.int .i64 t270, u270001, u270002, .int .i64 x270003_40] 30 (0, 0))) ∧ Aside0 (IsS103 w0 wc g s0_0 x1001_40) ∧ Aside0 (KeepBut w wc g none) ∧ Aside0 (Below w0.heap.size w0 wc))
       case first =>
        have H := HC41.out
        clear HC41
        by_cases c43 : t284 = 0
        ·rw [if_pos c43] at H
         have c43b0 : (t284 == 0) = true := beq_iff_eq.mpr c43
         have c43b1 : (t284 != 0) = false := bne_eq_false_iff_eq.mpr c43
         clear c43
         (first | rw [c43b0] | (simp only [i64_w, i32_w]; rw [c43b0]) | skip)
         replace H := Option.bind_eq_some_iff.mp H
         obtain ⟨⟨t286, t287⟩, A440, H⟩ := H
         replace H : (spec_l31State.j2 k2 s0_0 t287 t270 x270001_2 x270002_2 t286) = some (r1, r2, r3, r4, r5) := H
         have A44 := qM A440
         clear A440
         have H' := qM H
         clear H
         go_wp2_with (first | ((with_reducible refine gate_callee (f := 73) rfl ?_); refine goesL_ (some 43) rfl rfl Try.func73 (by kernel_rfl) rfl #[.pointer (some ⟨g, 0, none⟩), .int .i64 3] rfl (by (try simp only [List.map_toArray, List.map_cons, List.map_nil]); first | done | rfl | (simp only [List.length_drop, List.length_take]; rfl)) ?_; (with_reducible refine (spec_l30Rd_pick.calls k2 g s0_0 t285 3 t286 t287 w0 _ ?side1 ?side2 A44.out).mono ?_); (case side1 => repeat (first | (with_reducible first | exact HI0.out | apply IsS103.alloc | apply IsS103.drewN | apply IsS103.drew | apply IsS103.set_1 | refine IsS103.far ?_ NB0_260.out _ | refine IsS103.far ?_ NB0_269.out _) | exact HI0.out)); (case side2 => repeat (first | (with_reducible first | exact HB.out | apply yA | apply yN | apply yD | refine yS ?_ (IsS103.ge HI0.out) | refine yS ?_ GE260.out | refine yS ?_ GE269.out) | exact HB.out)); rintro e w45 ⟨rfl, hi, hb, hk⟩; refine ⟨_, rfl, ?_⟩; have n0_ := qM (Kd.R_mono (Kd.R_keep (IsS103.apart (show IsS103 w0 _ g s0_0 t285 from by repeat (first | (with_reducible first | exact HI0.out | apply IsS103.alloc | apply IsS103.drewN | apply IsS103.drew | apply IsS103.set_1 | refine IsS103.far ?_ NB0_260.out _ | refine IsS103.far ?_ NB0_269.out _) | exact HI0.out)) (qz HO_270001) (by decide)) hk (fun _ h => h.2)) (fun _ h => h.1)); have n1_ := qM (Kd.R_mono (Kd.R_keep (IsS103.apart (show IsS103 w0 _ g s0_0 t285 from by repeat (first | (with_reducible first | exact HI0.out | apply IsS103.alloc | apply IsS103.drewN | apply IsS103.drew | apply IsS103.set_1 | refine IsS103.far ?_ NB0_260.out _ | refine IsS103.far ?_ NB0_269.out _) | exact HI0.out)) (qz HO_270002) (by decide)) hk (fun _ h => h.2)) (fun _ h => h.1)); have n2_ := qM (KeepBut.blk hk (g' := gb260) (o := .cells #[.int .i64 0, .slice none 0 0, .slice none 0 0, .int .i64 0] 30 (0, 0)) (bz BK260) NB260_0.out (by simp)); have n3_ := qM (KeepBut.blk hk (g' := gb269) (o := .cells #[.int .i64 t270, u270001, u270002, .int .i64 t268] 30 (0, 0)) (bz BK269) NB269_0.out (by simp)); have n4_ := qM (KeepBut.trans (by repeat (first | (with_reducible first | exact HK.out | apply KeepBut.set_ | apply keep_drewN | apply keep_drew | apply keep_alloc | refine keep_far ?_ GW260.out _ | refine keep_far ?_ GW269.out _) | exact HK.out)) hk (.inl rfl)); have n5_ := qM (hb); have n6_ := qM (hi); clear HO_270001 HO_270002 BK260 BK269 HK HB HI0; revert n0_ n1_ n2_ n3_ n4_ n5_ n6_; intro HO_270001 HO_270002 BK260 BK269 HK HB HI0; (try clear hb); (try clear hb2); (try clear hk); (try clear hi); have hnb46 := NB269_260.out; have hnc46 := NB260_269.out; have hnb47 := NB269_0.out; have hnc47 := NB0_269.out; have hcz48_0 : w45.cell? ⟨gb269, 0, none⟩ = some (.int .i64 t270) := (zC BK269.out 0).trans rfl; have hcz48_1 : w45.cell? ⟨gb269, 1, none⟩ = some (u270001) := (zC BK269.out 1).trans rfl; have hcz48_2 : w45.cell? ⟨gb269, 2, none⟩ = some (u270002) := (zC BK269.out 2).trans rfl; have hcz48_3 : w45.cell? ⟨gb269, 3, none⟩ = some (.int .i64 t268) := (zC BK269.out 3).trans rfl; have hfz48_0 := zF BK269.out 0; have hfz48_1 := zF BK269.out 1; have hfz48_2 := zF BK269.out 2; have hfz48_3 := zF BK269.out 3))
         go_meet
         case rel => exact ⟨_, (t287), (t286), H', ⟨by have := HK1.out; have := HK2.out; first | omega | exact Nat.le_refl _⟩, ⟨by (with_reducible repeat (first | apply qA | apply qN | apply qD)); exact Kd.R_mono (qF (p := ⟨gb269, 3, none⟩) (Kd.R_types HO_270001.out BK269.out (by decide)) (fun _ hk => hk.2) (.int .i64 t286)) (fun _ hk => hk.1)⟩, ⟨by (with_reducible repeat (first | apply qA | apply qN | apply qD)); exact Kd.R_mono (qF (p := ⟨gb269, 3, none⟩) (Kd.R_types HO_270002.out BK269.out (by decide)) (fun _ hk => hk.2) (.int .i64 t286)) (fun _ hk => hk.1)⟩, ⟨by (with_reducible repeat (first | refine zN ?_ _ | refine zD ?_ | refine zA ?_ _)); refine blk_far ?_ NB260_269.out _; (with_reducible repeat (first | refine zN ?_ _ | refine zD ?_ | refine zA ?_ _)); exact BK260.out⟩, ⟨by (with_reducible repeat (first | refine zN ?_ _ | refine zD ?_ | refine zA ?_ _)); refine blk_put (cs := #[.int .i64 t270, u270001, u270002, .int .i64 t268]) ?_ 3 _ rfl; (with_reducible repeat (first | refine zN ?_ _ | refine zD ?_ | refine zA ?_ _)); exact BK269.out⟩, ⟨by repeat (first | (with_reducible first | exact HI0.out | apply IsS103.alloc | apply IsS103.drewN | apply IsS103.drew | apply IsS103.set_1 | refine IsS103.far ?_ NB0_260.out _ | refine IsS103.far ?_ NB0_269.out _) | exact HI0.out)⟩, ⟨by repeat (first | (with_reducible first | exact HK.out | apply KeepBut.set_ | apply keep_drewN | apply keep_drew | apply keep_alloc | refine keep_far ?_ GW260.out _ | refine keep_far ?_ GW269.out _) | exact HK.out)⟩, ⟨by repeat (first | (with_reducible first | exact HB.out | apply yA | apply yN | apply yD | refine yS ?_ (IsS103.ge HI0.out) | refine yS ?_ GE260.out | refine yS ?_ GE269.out) | exact HB.out)⟩⟩
        ·rw [if_neg c43] at H
         have c43b0 : (t284 == 0) = false := beq_eq_false_iff_ne.mpr c43
         have c43b1 : (t284 != 0) = true := bne_iff_ne.mpr c43
         (first | rw [c43b0] | (simp only [i64_w, i32_w]; rw [c43b0]) | skip)
         have H' := qM H
         clear H
         go_wp2
         go_meet
         case rel => exact ⟨_, (t285), (t268), H', ⟨by have := HK1.out; have := HK2.out; first | omega | exact Nat.le_refl _⟩, ⟨by (with_reducible repeat (first | apply qA | apply qN | apply qD)); exact HO_270001.out⟩, ⟨by (with_reducible repeat (first | apply qA | apply qN | apply qD)); exact HO_270002.out⟩, ⟨by (with_reducible repeat (first | refine zN ?_ _ | refine zD ?_ | refine zA ?_ _)); exact BK260.out⟩, ⟨by (with_reducible repeat (first | refine zN ?_ _ | refine zD ?_ | refine zA ?_ _)); exact BK269.out⟩, ⟨by repeat (first | (with_reducible first | exact HI0.out | apply IsS103.alloc | apply IsS103.drewN | apply IsS103.drew | apply IsS103.set_1 | refine IsS103.far ?_ NB0_260.out _ | refine IsS103.far ?_ NB0_269.out _) | exact HI0.out)⟩, ⟨by repeat (first | (with_reducible first | exact HK.out | apply KeepBut.set_ | apply keep_drewN | apply keep_drew | apply keep_alloc | refine keep_far ?_ GW260.out _ | refine keep_far ?_ GW269.out _) | exact HK.out)⟩, ⟨by repeat (first | (with_reducible first | exact HB.out | apply yA | apply yN | apply yD | refine yS ?_ (IsS103.ge HI0.out) | refine yS ?_ GE260.out | refine yS ?_ GE269.out) | exact HB.out)⟩⟩
       case rest =>
        clear HC41
        try clear c1
        try clear c2
        try clear p2
        try clear q2
        try clear hx2
        try clear qi2
        try clear hf2
        try clear c3
        try clear p3
        try clear q3
        try clear hx3
        try clear hf3
        try clear c4
        try clear p6
        try clear c7
        try clear c8
        try clear c9
        try clear c15
        try clear c15b0
        try clear c18
        try clear c18b0
        try clear c19
        try clear c19b0
        try clear c20
        try clear c20b0
        try clear c21
        try clear c21b0
        try clear p22
        try clear q22
        try clear hx22
        try clear hf22
        try clear c25
        try clear p27
        try clear q27
        try clear hx27
        try clear qi27
        try clear c32
        try clear c32b0
        try clear c34
        try clear c34b0
        try clear c35
        try clear c35b0
        try clear p36
        try clear q36
        try clear hx36
        try clear hf36
        try clear c43
        try clear c43b0
        try clear c43b1
        try clear c46
        try clear c47
        try clear hcz10_0
        try clear hcz10_1
        try clear hcz10_2
        try clear hcz10_3
        try clear hcz14_0
        try clear hcz14_1
        try clear hcz14_2
        try clear hcz14_3
        try clear hcz48_0
        try clear hcz48_1
        try clear hcz48_2
        try clear hcz48_3
        try clear hfz10_0
        try clear hfz10_1
        try clear hfz10_2
        try clear hfz10_3
        try clear hfz14_0
        try clear hfz14_1
        try clear hfz14_2
        try clear hfz14_3
        try clear hfz48_0
        try clear hfz48_1
        try clear hfz48_2
        try clear hfz48_3
        try clear hx22_0
        try clear hx279_0
        try clear hx36_0
        try clear p2
        try clear p22
        try clear p27
        try clear p279
        try clear p36
        try clear p6
        try clear q2
        try clear q22
        try clear q27
        try clear q279
        try clear q36
        obtain ⟨kq, x1001_40, x270003_40, HA, HJ40, HO_270001, HO_270002, BK260, BK269, HI0, HK, HB⟩ := hcut
        cases kq with
        | zero => exact absurd HA.out (by simp [spec_l31State.j2])
        | succ kj40 =>
         have H := HA.out
         clear HA
         simp only [spec_l31State.j2] at H
         replace H := Option.bind_eq_some_iff.mp H
         obtain ⟨⟨t288, t289⟩, A490, H⟩ := H
         replace H : (if t288 = 0 then ((some (([(-1), 24, 25] : List Int) : List Int)).bind fun y290 => ((spec_l30Rd_pick.f kj40 s0_0 t289 3).bind fun bt293 => (if 0 ≤ bt293.1 then (if bt293.1 < (y290.length : Int) then (some (rd y290 bt293.1, x270001_2, x270002_2, x270003_40, bt293.2)) else (none)) else (none)))) else (if t288 = 1 then ((spec_l30Rd_pick.f kj40 s0_0 t289 4).bind fun bt296 => ((some (([(-1), 256] : List Int) : List Int)).bind fun y298 => ((spec_l30Rd_pick.f kj40 s0_0 bt296.2 2).bind fun bt301 => (if 0 ≤ bt301.1 then (if bt301.1 < (y298.length : Int) then (if 0 ≤ bt296.1 then (if bt296.1 < (x270001_2.length : Int) then (some (t270, (x270001_2.set (bt296.1 : Int).toNat (rd y298 bt301.1)), x270002_2, x270003_40, bt301.2)) else (none)) else (none)) else (none)) else (none))))) else (if t288 = 2 then (if x270002_2.length < 17592186044416 then (some (t270, x270001_2, (x270002_2 ++ [0]), x270003_40, t289)) else (none)) else (if t288 = 3 then ((some (([(-1), 3] : List Int) : List Int)).bind fun y308 => ((spec_l30Rd_pick.f kj40 s0_0 t289 2).bind fun bt311 => (if 0 ≤ bt311.1 then (if bt311.1 < (y308.length : Int) then (some (t270, x270001_2, x270002_2, rd y308 bt311.1, bt311.2)) else (none)) else (none)))) else (if t288 = 4 then ((spec_l30Rd_pick.f kj40 s0_0 t289 8).bind fun bt314 => (if 0 ≤ bt314.1 then (if bt314.1 < (x270002_2.length : Int) then (some (t270, x270001_2, (x270002_2.set (bt314.1 : Int).toNat 256), x270003_40, bt314.2)) else (none)) else (none))) else (some (t270, x270001_2, x270002_2, x270003_40, t289))))))) = some (r1, r2, r3, r4, r5) := H
         have A49 := qM A490
         clear A490
         by_cases c50 : t288 = 0
         ·rw [if_pos c50] at H
          have c50b0 : (t288 == 0) = true := beq_iff_eq.mpr c50
          have c50b1 : (t288 != 0) = false := bne_eq_false_iff_eq.mpr c50
          clear c50
          obtain ⟨y290, hy290⟩ : ∃ y_ : List Int, y_ = (([(-1), 24, 25] : List Int)) := ⟨_, rfl⟩
          replace H : ((spec_l30Rd_pick.f kj40 s0_0 t289 3).bind fun bt293 => (if 0 ≤ bt293.1 then (if bt293.1 < (y290.length : Int) then (some (rd y290 bt293.1, x270001_2, x270002_2, x270003_40, bt293.2)) else (none)) else (none))) = some (r1, r2, r3, r4, r5) := by first | (rw [hy290]; with_reducible exact H) | (have H2_ := (Option.bind_some _ _).symm.trans H; rw [hy290]; with_reducible exact H2_) | (have H2_ := (Option.bind_some _ _).symm.trans H; with_reducible exact H2_) | with_reducible exact H | (rw [hy290]; exact H) | exact H
          have Ny290 := qM hy290
          clear hy290
          replace H := Option.bind_eq_some_iff.mp H
          obtain ⟨⟨t293, t294⟩, A510, H⟩ := H
          replace H : (if 0 ≤ t293 then (if t293 < (y290.length : Int) then (some (rd y290 t293, x270001_2, x270002_2, x270003_40, t294)) else (none)) else (none)) = some (r1, r2, r3, r4, r5) := H
          have A51 := qM A510
          clear A510
          by_cases c52 : 0 ≤ t293
          ·rw [if_pos c52] at H
           have c52b0 : decide (0 ≤ t293) = true := decide_eq_true c52
           clear c52
           by_cases c53 : t293 < (y290.length : Int)
           ·rw [if_pos c53] at H
            have c53b0 : decide (t293 < (y290.length : Int)) = true := decide_eq_true c53
            clear c53
            simp only [Option.some.injEq, Prod.mk.injEq] at H
            obtain ⟨rfl, rfl, rfl, rfl, rfl⟩ := H
            go_wp2_with (first | ((with_reducible refine gate_callee (f := 73) rfl ?_); refine goesL_ (some 46) rfl rfl Try.func73 (by kernel_rfl) rfl #[.pointer (some ⟨g, 0, none⟩), .int .i64 24] rfl (by (try simp only [List.map_toArray, List.map_cons, List.map_nil]); first | done | rfl | (simp only [List.length_drop, List.length_take]; rfl)) ?_; (with_reducible refine (spec_l30Rd_pick.calls kj40 g s0_0 x1001_40 24 t288 t289 w0 _ ?side1 ?side2 A49.out).mono ?_); (case side1 => repeat (first | (with_reducible first | exact HI0.out | apply IsS103.alloc | apply IsS103.drewN | apply IsS103.drew | apply IsS103.set_1 | refine IsS103.far ?_ NB0_260.out _ | refine IsS103.far ?_ NB0_269.out _) | exact HI0.out)); (case side2 => repeat (first | (with_reducible first | exact HB.out | apply yA | apply yN | apply yD | refine yS ?_ (IsS103.ge HI0.out) | refine yS ?_ GE260.out | refine yS ?_ GE269.out) | exact HB.out)); rintro e w54 ⟨rfl, hi, hb, hk⟩; refine ⟨_, rfl, ?_⟩; have n0_ := qM (Kd.R_mono (Kd.R_keep (IsS103.apart (show IsS103 w0 _ g s0_0 x1001_40 from by repeat (first | (with_reducible first | exact HI0.out | apply IsS103.alloc | apply IsS103.drewN | apply IsS103.drew | apply IsS103.set_1 | refine IsS103.far ?_ NB0_260.out _ | refine IsS103.far ?_ NB0_269.out _) | exact HI0.out)) (qz HO_270001) (by decide)) hk (fun _ h => h.2)) (fun _ h => h.1)); have n1_ := qM (Kd.R_mono (Kd.R_keep (IsS103.apart (show IsS103 w0 _ g s0_0 x1001_40 from by repeat (first | (with_reducible first | exact HI0.out | apply IsS103.alloc | apply IsS103.drewN | apply IsS103.drew | apply IsS103.set_1 | refine IsS103.far ?_ NB0_260.out _ | refine IsS103.far ?_ NB0_269.out _) | exact HI0.out)) (qz HO_270002) (by decide)) hk (fun _ h => h.2)) (fun _ h => h.1)); have n2_ := qM (KeepBut.blk hk (g' := gb260) (o := .cells #[.int .i64 0, .slice none 0 0, .slice none 0 0, .int .i64 0] 30 (0, 0)) (bz BK260) NB260_0.out (by simp)); have n3_ := qM (KeepBut.blk hk (g' := gb269) (o := .cells #[.int .i64 t270, u270001, u270002, .int .i64 x270003_40] 30 (0, 0)) (bz BK269) NB269_0.out (by simp)); have n4_ := qM (KeepBut.trans (by repeat (first | (with_reducible first | exact HK.out | apply KeepBut.set_ | apply keep_drewN | apply keep_drew | apply keep_alloc | refine keep_far ?_ GW260.out _ | refine keep_far ?_ GW269.out _) | exact HK.out)) hk (.inl rfl)); have n5_ := qM (hb); have n6_ := qM (hi); clear HO_270001 HO_270002 BK260 BK269 HK HB HI0; revert n0_ n1_ n2_ n3_ n4_ n5_ n6_; intro HO_270001 HO_270002 BK260 BK269 HK HB HI0; (try clear hb); (try clear hb2); (try clear hk); (try clear hi)) | ((with_reducible refine gate_dst (N := 49) rfl ?_); refine Kd.R_lit (Kd.int .i64) _ 3 ?hg (N := 49) ?hd (xs := ([(-1), 24, 25] : List Int)) (inner := [.int .i64 (-1), .int .i64 24, .int .i64 25]) (ok := fun _ => True) (okp := fun _ => True) ?hr ?hp (fun _ hk => hk) trivial (Below.refl _ _) (Nat.le_refl _) (by simp) ?_; (case hd => rfl); (case hg => rfl); (case hr => first | (go_simp; done) | (go_simp; rfl)); (case hp => exact (Reps.one (show Kd.M (Kd.int .i64) _ _ _ (-1) [.int .i64 (-1)] from rfl) (Reps.one (show Kd.M (Kd.int .i64) _ _ _ 24 [.int .i64 24] from rfl) (Reps.one (show Kd.M (Kd.int .i64) _ _ _ 25 [.int .i64 25] from rfl) (Reps.none _ _))))); intro v291 w55 ho56 hb hg_ hnew_; clear hg_ hnew_; (first | rw [← Ny290.out] at ho56 | (simp only [Int.reduceToNat] at ho56; rw [← Ny290.out] at ho56)); have n0_ := qM (Kd.R_elder' (qz HO_270001) (Kd.R_base ho56) hb); have n1_ := qM (Kd.R_elder' (qz HO_270002) (Kd.R_base ho56) hb); have n2_ := qM (Kd.R_lower (Kd.R_new' (Kd.R_new' ho56 (Kd.R_lt (qz HO_270001))) (Kd.R_lt (qz HO_270002))) (keep_size (w := w) (g := g) (row := none) (by repeat (first | (with_reducible first | exact HK.out | apply KeepBut.set_ | apply keep_drewN | apply keep_drew | apply keep_alloc | refine keep_far ?_ GW260.out _ | refine keep_far ?_ GW269.out _) | exact HK.out)))); have n3_ := qM (blk_below (bz BK260) hb); have n4_ := qM (blk_below (bz BK269) hb); have n5_ := qM (IsS103.below (by repeat (first | (with_reducible first | exact HI0.out | apply IsS103.alloc | apply IsS103.drewN | apply IsS103.drew | apply IsS103.set_1 | refine IsS103.far ?_ NB0_260.out _ | refine IsS103.far ?_ NB0_269.out _) | exact HI0.out)) hb); have n6_ := qM (KeepBut.trans (by repeat (first | (with_reducible first | exact HK.out | apply KeepBut.set_ | apply keep_drewN | apply keep_drew | apply keep_alloc | refine keep_far ?_ GW260.out _ | refine keep_far ?_ GW269.out _) | exact HK.out)) (KeepBut.of_below hb g none) (.inl rfl)); have n7_ := qM (below_step (by repeat (first | (with_reducible first | exact HB.out | apply yA | apply yN | apply yD | refine yS ?_ (IsS103.ge HI0.out) | refine yS ?_ GE260.out | refine yS ?_ GE269.out) | exact HB.out)) hb); clear HO_270001 HO_270002 BK260 BK269 HI0 HK HB; revert n0_ n1_ n2_ n3_ n4_ n5_ n6_ n7_; intro HO_270001 HO_270002 HO292 BK260 BK269 HI0 HK HB; clear hb ho56) | ((with_reducible refine gate_callee (f := 73) rfl ?_); refine goesL_ (some 51) rfl rfl Try.func73 (by kernel_rfl) rfl #[.pointer (some ⟨g, 0, none⟩), .int .i64 3] rfl (by (try simp only [List.map_toArray, List.map_cons, List.map_nil]); first | done | rfl | (simp only [List.length_drop, List.length_take]; rfl)) ?_; (with_reducible refine (spec_l30Rd_pick.calls kj40 g s0_0 t289 3 t293 t294 w0 _ ?side1 ?side2 A51.out).mono ?_); (case side1 => repeat (first | (with_reducible first | exact HI0.out | apply IsS103.alloc | apply IsS103.drewN | apply IsS103.drew | apply IsS103.set_1 | refine IsS103.far ?_ NB0_260.out _ | refine IsS103.far ?_ NB0_269.out _) | exact HI0.out)); (case side2 => repeat (first | (with_reducible first | exact HB.out | apply yA | apply yN | apply yD | refine yS ?_ (IsS103.ge HI0.out) | refine yS ?_ GE260.out | refine yS ?_ GE269.out) | exact HB.out)); rintro e w57 ⟨rfl, hi, hb, hk⟩; refine ⟨_, rfl, ?_⟩; have n0_ := qM (Kd.R_mono (Kd.R_keep (IsS103.apart (show IsS103 w0 _ g s0_0 t289 from by repeat (first | (with_reducible first | exact HI0.out | apply IsS103.alloc | apply IsS103.drewN | apply IsS103.drew | apply IsS103.set_1 | refine IsS103.far ?_ NB0_260.out _ | refine IsS103.far ?_ NB0_269.out _) | exact HI0.out)) (qz HO_270001) (by decide)) hk (fun _ h => h.2)) (fun _ h => h.1)); have n1_ := qM (Kd.R_mono (Kd.R_keep (IsS103.apart (show IsS103 w0 _ g s0_0 t289 from by repeat (first | (with_reducible first | exact HI0.out | apply IsS103.alloc | apply IsS103.drewN | apply IsS103.drew | apply IsS103.set_1 | refine IsS103.far ?_ NB0_260.out _ | refine IsS103.far ?_ NB0_269.out _) | exact HI0.out)) (qz HO_270002) (by decide)) hk (fun _ h => h.2)) (fun _ h => h.1)); have n2_ := qM (KeepBut.blk hk (g' := gb260) (o := .cells #[.int .i64 0, .slice none 0 0, .slice none 0 0, .int .i64 0] 30 (0, 0)) (bz BK260) NB260_0.out (by simp)); have n3_ := qM (KeepBut.blk hk (g' := gb269) (o := .cells #[.int .i64 t270, u270001, u270002, .int .i64 x270003_40] 30 (0, 0)) (bz BK269) NB269_0.out (by simp)); have n4_ := qM (Kd.R_mono (Kd.R_keep (IsS103.apart (show IsS103 w0 _ g s0_0 t289 from by repeat (first | (with_reducible first | exact HI0.out | apply IsS103.alloc | apply IsS103.drewN | apply IsS103.drew | apply IsS103.set_1 | refine IsS103.far ?_ NB0_260.out _ | refine IsS103.far ?_ NB0_269.out _) | exact HI0.out)) (qz HO292) (by decide)) hk (fun _ h => h.2)) (fun _ h => h.1)); have n5_ := qM (KeepBut.trans (by repeat (first | (with_reducible first | exact HK.out | apply KeepBut.set_ | apply keep_drewN | apply keep_drew | apply keep_alloc | refine keep_far ?_ GW260.out _ | refine keep_far ?_ GW269.out _) | exact HK.out)) hk (.inl rfl)); have n6_ := qM (hb); have n7_ := qM (hi); clear HO_270001 HO_270002 BK260 BK269 HO292 HK HB HI0; revert n0_ n1_ n2_ n3_ n4_ n5_ n6_ n7_; intro HO_270001 HO_270002 BK260 BK269 HO292 HK HB HI0; (try clear hb); (try clear hb2); (try clear hk); (try clear hi); obtain ⟨Ao58, co58, eo58⟩ := Kd.R_slice HO292.out; subst eo58; have p295 : 0 ≤ (t293 : Int) := of_decide_eq_true (by first | (with_reducible assumption) | assumption); have q295 : t293 < (y290.length : Int) := of_decide_eq_true (by first | (with_reducible assumption) | assumption); obtain ⟨ad295, e295, hx295_0⟩ := Kd.at_int (qR HO292.out).2.2 t293 p295 q295; cases e295; replace p295 := eq_true p295; replace q295 := eq_true q295; have hnb59 := NB269_260.out; have hnc59 := NB260_269.out; have hnb60 := NB269_0.out; have hnc60 := NB0_269.out; have hcz61_0 : w57.cell? ⟨gb269, 0, none⟩ = some (.int .i64 t270) := (zC BK269.out 0).trans rfl; have hcz61_1 : w57.cell? ⟨gb269, 1, none⟩ = some (u270001) := (zC BK269.out 1).trans rfl; have hcz61_2 : w57.cell? ⟨gb269, 2, none⟩ = some (u270002) := (zC BK269.out 2).trans rfl; have hcz61_3 : w57.cell? ⟨gb269, 3, none⟩ = some (.int .i64 x270003_40) := (zC BK269.out 3).trans rfl; have hfz61_0 := zF BK269.out 0; have hfz61_1 := zF BK269.out 1; have hfz61_2 := zF BK269.out 2; have hfz61_3 := zF BK269.out 3; have hnb62 := NB260_0.out; have hnc62 := NB0_260.out; have hcz63_0 : w57.cell? ⟨gb260, 0, none⟩ = some (.int .i64 0) := (zC BK260.out 0).trans rfl; have hcz63_1 : w57.cell? ⟨gb260, 1, none⟩ = some (.slice none 0 0) := (zC BK260.out 1).trans rfl; have hcz63_2 : w57.cell? ⟨gb260, 2, none⟩ = some (.slice none 0 0) := (zC BK260.out 2).trans rfl; have hcz63_3 : w57.cell? ⟨gb260, 3, none⟩ = some (.int .i64 0) := (zC BK260.out 3).trans rfl; have hfz63_0 := zF BK260.out 0; have hfz63_1 := zF BK260.out 1; have hfz63_2 := zF BK260.out 2; have hfz63_3 := zF BK260.out 3; obtain ⟨Ao64, co64, eo64⟩ := Kd.R_slice HO_270001.out; subst eo64; obtain ⟨Ao65, co65, eo65⟩ := Kd.R_slice HO_270002.out; subst eo65))
            refine bodyPost_ret (results_cell_row rfl _ _ gb260 30 #[.int .i64 (rd y290 t293), .slice Ao64 x270001_2.length co64, .slice Ao65 x270002_2.length co65, .int .i64 x270003_40] (0, 0) _ rfl (by (with_reducible repeat (first | refine zN ?_ _ | refine zD ?_ | refine zA ?_ _)); refine blk_put (cs := #[.int .i64 (rd y290 t293), .slice Ao64 x270001_2.length co64, .slice Ao65 x270002_2.length co65, .int .i64 0]) ?_ 3 _ rfl; (with_reducible repeat (first | refine zN ?_ _ | refine zD ?_ | refine zA ?_ _)); refine blk_put (cs := #[.int .i64 (rd y290 t293), .slice Ao64 x270001_2.length co64, .slice none 0 0, .int .i64 0]) ?_ 2 _ rfl; (with_reducible repeat (first | refine zN ?_ _ | refine zD ?_ | refine zA ?_ _)); refine blk_put (cs := #[.int .i64 (rd y290 t293), .slice none 0 0, .slice none 0 0, .int .i64 0]) ?_ 1 _ rfl; (with_reducible repeat (first | refine zN ?_ _ | refine zD ?_ | refine zA ?_ _)); refine blk_put (cs := #[.int .i64 0, .slice none 0 0, .slice none 0 0, .int .i64 0]) ?_ 0 _ rfl; (with_reducible repeat (first | refine zN ?_ _ | refine zD ?_ | refine zA ?_ _)); refine blk_far ?_ NB260_269.out _; (with_reducible repeat (first | refine zN ?_ _ | refine zD ?_ | refine zA ?_ _)); exact BK260.out) Try.underlying30 rfl (by kernel_rfl)) rfl ?_
            exact ⟨_, _, by first | rfl | (simp [errW_none, errW_some] <;> rfl) | (simp [*, errW_none, errW_some] <;> rfl), by (with_reducible repeat (first | apply qA | apply qN | apply qD)); exact Kd.R_mono (qF (p := ⟨gb260, 3, none⟩) (qF (p := ⟨gb260, 2, none⟩) (qF (p := ⟨gb260, 1, none⟩) (qF (p := ⟨gb260, 0, none⟩) (qF (p := ⟨gb269, 0, none⟩) (Kd.R_types (Kd.R_types HO_270001.out BK269.out (by decide)) BK260.out (by decide)) (fun _ hk => hk.1.2) (.int .i64 (rd y290 t293))) (fun _ hk => hk.2) (.int .i64 (rd y290 t293))) (fun _ hk => hk.2) (.slice Ao64 x270001_2.length co64)) (fun _ hk => hk.2) (.slice Ao65 x270002_2.length co65)) (fun _ hk => hk.2) (.int .i64 x270003_40)) (fun _ hk => hk.1.1.1), by (with_reducible repeat (first | apply qA | apply qN | apply qD)); exact Kd.R_mono (qF (p := ⟨gb260, 3, none⟩) (qF (p := ⟨gb260, 2, none⟩) (qF (p := ⟨gb260, 1, none⟩) (qF (p := ⟨gb260, 0, none⟩) (qF (p := ⟨gb269, 0, none⟩) (Kd.R_types (Kd.R_types HO_270002.out BK269.out (by decide)) BK260.out (by decide)) (fun _ hk => hk.1.2) (.int .i64 (rd y290 t293))) (fun _ hk => hk.2) (.int .i64 (rd y290 t293))) (fun _ hk => hk.2) (.slice Ao64 x270001_2.length co64)) (fun _ hk => hk.2) (.slice Ao65 x270002_2.length co65)) (fun _ hk => hk.2) (.int .i64 x270003_40)) (fun _ hk => hk.1.1.1), by repeat (first | (with_reducible first | exact HI0.out | apply IsS103.alloc | apply IsS103.drewN | apply IsS103.drew | apply IsS103.set_1 | refine IsS103.far ?_ NB0_260.out _ | refine IsS103.far ?_ NB0_269.out _) | exact HI0.out), by repeat (first | (with_reducible first | exact HB.out | apply yA | apply yN | apply yD | refine yS ?_ (IsS103.ge HI0.out) | refine yS ?_ GE260.out | refine yS ?_ GE269.out) | exact HB.out), by repeat (first | (with_reducible first | exact HK.out | apply KeepBut.set_ | apply keep_drewN | apply keep_drew | apply keep_alloc | refine keep_far ?_ GW260.out _ | refine keep_far ?_ GW269.out _) | exact HK.out)⟩
           ·rw [if_neg c53] at H
            exact absurd H (by simp)
          ·rw [if_neg c52] at H
           exact absurd H (by simp)
         ·rw [if_neg c50] at H
          have c50b0 : (t288 == 0) = false := beq_eq_false_iff_ne.mpr c50
          have c50b1 : (t288 != 0) = true := bne_iff_ne.mpr c50
          by_cases c66 : t288 = 1
          ·rw [if_pos c66] at H
           have c66b0 : (t288 == 1) = true := beq_iff_eq.mpr c66
           have c66b1 : (t288 != 1) = false := bne_eq_false_iff_eq.mpr c66
           clear c66
           replace H := Option.bind_eq_some_iff.mp H
           obtain ⟨⟨t296, t297⟩, A670, H⟩ := H
           replace H : ((some (([(-1), 256] : List Int) : List Int)).bind fun y298 => ((spec_l30Rd_pick.f kj40 s0_0 t297 2).bind fun bt301 => (if 0 ≤ bt301.1 then (if bt301.1 < (y298.length : Int) then (if 0 ≤ t296 then (if t296 < (x270001_2.length : Int) then (some (t270, (x270001_2.set (t296 : Int).toNat (rd y298 bt301.1)), x270002_2, x270003_40, bt301.2)) else (none)) else (none)) else (none)) else (none)))) = some (r1, r2, r3, r4, r5) := H
           have A67 := qM A670
           clear A670
           obtain ⟨y298, hy298⟩ : ∃ y_ : List Int, y_ = (([(-1), 256] : List Int)) := ⟨_, rfl⟩
           replace H : ((spec_l30Rd_pick.f kj40 s0_0 t297 2).bind fun bt301 => (if 0 ≤ bt301.1 then (if bt301.1 < (y298.length : Int) then (if 0 ≤ t296 then (if t296 < (x270001_2.length : Int) then (some (t270, (x270001_2.set (t296 : Int).toNat (rd y298 bt301.1)), x270002_2, x270003_40, bt301.2)) else (none)) else (none)) else (none)) else (none))) = some (r1, r2, r3, r4, r5) := by first | (rw [hy298]; with_reducible exact H) | (have H2_ := (Option.bind_some _ _).symm.trans H; rw [hy298]; with_reducible exact H2_) | (have H2_ := (Option.bind_some _ _).symm.trans H; with_reducible exact H2_) | with_reducible exact H | (rw [hy298]; exact H) | exact H
           have Ny298 := qM hy298
           clear hy298
           replace H := Option.bind_eq_some_iff.mp H
           obtain ⟨⟨t301, t302⟩, A680, H⟩ := H
           replace H : (if 0 ≤ t301 then (if t301 < (y298.length : Int) then (if 0 ≤ t296 then (if t296 < (x270001_2.length : Int) then (some (t270, (x270001_2.set (t296 : Int).toNat (rd y298 t301)), x270002_2, x270003_40, t302)) else (none)) else (none)) else (none)) else (none)) = some (r1, r2, r3, r4, r5) := H
           have A68 := qM A680
           clear A680
           by_cases c69 : 0 ≤ t301
           ·rw [if_pos c69] at H
            have c69b0 : decide (0 ≤ t301) = true := decide_eq_true c69
            clear c69
            by_cases c70 : t301 < (y298.length : Int)
            ·rw [if_pos c70] at H
             have c70b0 : decide (t301 < (y298.length : Int)) = true := decide_eq_true c70
             clear c70
             by_cases c71 : 0 ≤ t296
             ·rw [if_pos c71] at H
              have c71b0 : decide (0 ≤ t296) = true := decide_eq_true c71
              clear c71
              by_cases c72 : t296 < (x270001_2.length : Int)
              ·rw [if_pos c72] at H
               have c72b0 : decide (t296 < (x270001_2.length : Int)) = true := decide_eq_true c72
               clear c72
               obtain ⟨y304, hy304⟩ : ∃ y_ : List Int, y_ = (x270001_2.set (t296 : Int).toNat (rd y298 t301)) := ⟨_, rfl⟩
               replace H : (some (t270, y304, x270002_2, x270003_40, t302)) = some (r1, r2, r3, r4, r5) := by first | (rw [hy304]; with_reducible exact H) | (have H2_ := (Option.bind_some _ _).symm.trans H; rw [hy304]; with_reducible exact H2_) | (have H2_ := (Option.bind_some _ _).symm.trans H; with_reducible exact H2_) | with_reducible exact H | (rw [hy304]; exact H) | exact H
               have Ny304 := qM hy304
               clear hy304
               simp only [Option.some.injEq, Prod.mk.injEq] at H
               obtain ⟨rfl, rfl, rfl, rfl, rfl⟩ := H
               try go_wp2_with (first | ((with_reducible refine gate_callee (f := 73) rfl ?_); refine goesL_ (some 46) rfl rfl Try.func73 (by kernel_rfl) rfl #[.pointer (some ⟨g, 0, none⟩), .int .i64 24] rfl (by (try simp only [List.map_toArray, List.map_cons, List.map_nil]); first | done | rfl | (simp only [List.length_drop, List.length_take]; rfl)) ?_; (with_reducible refine (spec_l30Rd_pick.calls kj40 g s0_0 x1001_40 24 t288 t289 w0 _ ?side1 ?side2 A49.out).mono ?_); (case side1 => repeat (first | (with_reducible first | exact HI0.out | apply IsS103.alloc | apply IsS103.drewN | apply IsS103.drew | apply IsS103.set_1 | refine IsS103.far ?_ NB0_260.out _ | refine IsS103.far ?_ NB0_269.out _) | exact HI0.out)); (case side2 => repeat (first | (with_reducible first | exact HB.out | apply yA | apply yN | apply yD | refine yS ?_ (IsS103.ge HI0.out) | refine yS ?_ GE260.out | refine yS ?_ GE269.out) | exact HB.out)); rintro e w74 ⟨rfl, hi, hb, hk⟩; refine ⟨_, rfl, ?_⟩; have n0_ := qM (Kd.R_mono (Kd.R_keep (IsS103.apart (show IsS103 w0 _ g s0_0 x1001_40 from by repeat (first | (with_reducible first | exact HI0.out | apply IsS103.alloc | apply IsS103.drewN | apply IsS103.drew | apply IsS103.set_1 | refine IsS103.far ?_ NB0_260.out _ | refine IsS103.far ?_ NB0_269.out _) | exact HI0.out)) (qz HO_270001) (by decide)) hk (fun _ h => h.2)) (fun _ h => h.1)); have n1_ := qM (Kd.R_mono (Kd.R_keep (IsS103.apart (show IsS103 w0 _ g s0_0 x1001_40 from by repeat (first | (with_reducible first | exact HI0.out | apply IsS103.alloc | apply IsS103.drewN | apply IsS103.drew | apply IsS103.set_1 | refine IsS103.far ?_ NB0_260.out _ | refine IsS103.far ?_ NB0_269.out _) | exact HI0.out)) (qz HO_270002) (by decide)) hk (fun _ h => h.2)) (fun _ h => h.1)); have n2_ := qM (KeepBut.blk hk (g' := gb260) (o := .cells #[.int .i64 0, .slice none 0 0, .slice none 0 0, .int .i64 0] 30 (0, 0)) (bz BK260) NB260_0.out (by simp)); have n3_ := qM (KeepBut.blk hk (g' := gb269) (o := .cells #[.int .i64 t270, u270001, u270002, .int .i64 x270003_40] 30 (0, 0)) (bz BK269) NB269_0.out (by simp)); have n4_ := qM (KeepBut.trans (by repeat (first | (with_reducible first | exact HK.out | apply KeepBut.set_ | apply keep_drewN | apply keep_drew | apply keep_alloc | refine keep_far ?_ GW260.out _ | refine keep_far ?_ GW269.out _) | exact HK.out)) hk (.inl rfl)); have n5_ := qM (hb); have n6_ := qM (hi); clear HO_270001 HO_270002 BK260 BK269 HK HB HI0; revert n0_ n1_ n2_ n3_ n4_ n5_ n6_; intro HO_270001 HO_270002 BK260 BK269 HK HB HI0; (try clear hb); (try clear hb2); (try clear hk); (try clear hi)))
               have pi303 : (0 ≤ (t301 : Int)) = True := eq_true (of_decide_eq_true (by first | (with_reducible assumption) | assumption))
               have qi303 : (t301 < (y298.length : Int)) = True := eq_true (of_decide_eq_true (by first | (with_reducible assumption) | assumption))
               have n0_ := qM (qD HO_270001.out)
               have n1_ := qM (qD HO_270002.out)
               have n2_ := qM (zD BK260.out)
               have n3_ := qM (zD BK269.out)
               have n4_ := qM (IsS103.drew HI0.out)
               have n5_ := qM (keep_drew HK.out)
               have n6_ := qM (yD HB.out)
               clear HO_270001 HO_270002 BK260 BK269 HI0 HK HB
               revert n0_ n1_ n2_ n3_ n4_ n5_ n6_
               intro HO_270001 HO_270002 BK260 BK269 HI0 HK HB
               refine start_ (n := 11) (S := fun w' => w'.cell? ⟨gb269, 0, none⟩ = some (.int .i64 t270) ∧ w'.cell? ⟨gb269, 1, none⟩ = some (u270001) ∧ w'.cell? ⟨gb269, 2, none⟩ = some (u270002) ∧ w'.cell? ⟨gb269, 3, none⟩ = some (.int .i64 x270003_40)) (ds := [10]) #[false, false, false, false, false, false, false, false, false, false, false] (by kernel_rfl) rfl rfl ⟨(zC BK269.out 0).trans rfl, (zC BK269.out 1).trans rfl, (zC BK269.out 2).trans rfl, (zC BK269.out 3).trans rfl⟩ (fun hHeld => ?_); refine with_tabW spec_l31State.tab17 spec_l31State.bits17 (fun HT_ HW_ => ?_)
               generalize w74.drew = w75 at HO_270001 HO_270002 BK260 BK269 HI0 HK HB hHeld ⊢
               refine pure_ (i := 0) (N := some 57) (v := ?_) (a' := ?_) #[true, false, false, false, false, false, false, false, false, false, false] rfl rfl (any_of HT_.out (by kernel_rfl)) (fun _ _ _ h => h) (Or.inl ⟨by rfl, ?_⟩) ?_ ?_
               rotate_left
               ·intro w'
                go_simp
                with_reducible rfl
               rotate_left
               ·simp only [Act.put, List.setIfInBounds_toArray, List.set_cons_zero, List.set_cons_succ, i64_w, i32_w]
                rfl
               refine pure_ (i := 2) (N := some 59) (v := ?_) (a' := ?_) #[true, false, true, false, false, false, false, false, false, false, false] rfl rfl (any_of HT_.out (by kernel_rfl)) (fun _ _ _ h => h) (Or.inl ⟨by rfl, ?_⟩) ?_ ?_
               rotate_left
               ·intro w'
                go_simp
                with_reducible rfl
               rotate_left
               ·simp only [Act.put, List.setIfInBounds_toArray, List.set_cons_zero, List.set_cons_succ, i64_w, i32_w]
                rfl
               refine pure_ (i := 5) (N := some 62) (v := ?_) (a' := ?_) #[true, false, true, false, false, true, false, false, false, false, false] rfl rfl (any_of HT_.out (by kernel_rfl)) (fun _ _ _ h => h) (Or.inl ⟨by rfl, ?_⟩) ?_ ?_
               rotate_left
               ·intro w'
                go_simp
                with_reducible rfl
               rotate_left
               ·simp only [Act.put, List.setIfInBounds_toArray, List.set_cons_zero, List.set_cons_succ, i64_w, i32_w]
                rfl
               refine take_ (i := 1) (N := some 58) (v := ?_) (a' := ?_) #[true, true, true, false, false, true, false, false, false, false, false] rfl rfl (take_ofW HT_.out HW_.out (by kernel_rfl)) (fun _ _ _ h => h) (Or.inl ⟨by rfl, ?_⟩) hHeld ?_ ?_
               rotate_left
               ·rintro w' ⟨s0, s1, s2, s3⟩
                go_simp
                with_reducible rfl
               rotate_left
               ·simp only [Act.put, List.setIfInBounds_toArray, List.set_cons_zero, List.set_cons_succ, i64_w, i32_w]
                rfl
               refine join_ (σ := Value × Addr) 4 #[true, true, true, true, true, true, true, false, false, false, false] (fun s_ => [(60, .int .i64 t296), (61, s_.1), (63, .int .i64 t301)]) (fun s_ w' => (w'.cell? ⟨gb269, 0, none⟩ = some (.int .i64 t270) ∧ w'.cell? ⟨gb269, 1, none⟩ = some (u270001) ∧ w'.cell? ⟨gb269, 2, none⟩ = some (u270002) ∧ w'.cell? ⟨gb269, 3, none⟩ = some (.int .i64 x270003_40)) ∧ (Kd.R (Kd.int .i64) 3 w' w.heap.size (fun k_ => some k_ ≠ (u270001 : Value).ownBlock ∧ some k_ ≠ (u270002 : Value).ownBlock) s_.1 y298) ∧ (Kd.R (Kd.int .i64) 3 w' w.heap.size (fun k_ => some k_ ≠ (s_.1 : Value).ownBlock ∧ some k_ ≠ (u270002 : Value).ownBlock) u270001 x270001_2) ∧ (Kd.R (Kd.int .i64) 3 w' w.heap.size (fun k_ => some k_ ≠ (s_.1 : Value).ownBlock ∧ some k_ ≠ (u270001 : Value).ownBlock) u270002 x270002_2) ∧ (∃ c_, (s_.1 : Value) = .slice (some s_.2) y298.length c_) ∧ (w'.heap[gb260]? = some (.cells #[.int .i64 0, .slice none 0 0, .slice none 0 0, .int .i64 0] 30 (0, 0))) ∧ (w'.heap[gb269]? = some (.cells #[.int .i64 t270, u270001, u270002, .int .i64 x270003_40] 30 (0, 0))) ∧ (IsS103 w0 w' g s0_0 t302) ∧ (KeepBut w w' g none) ∧ (Below w0.heap.size w0 w')) ?_ ?_
               rotate_left
               ·intro hCont
                refine two_ (i := 3) (j := 4) (Ni := some 60) (Nj := some 61) #[true, true, true, true, false, true, false, false, false, false, false] #[true, true, true, false, true, true, false, false, false, false, false] rfl rfl rfl rfl (two_of HT_.out (by kernel_rfl)) (by decide) (by decide) (fun K hK => ?_) (fun K hK => ?_)
                ·skip
                 refine goes_ Try.func73 (by kernel_rfl) rfl #[.pointer (some ⟨g, 0, none⟩), .int .i64 4] (by rfl) rfl rfl (by (try simp only [List.map_toArray, List.map_cons, List.map_nil]); first | done | rfl | (simp only [List.length_drop, List.length_take]; rfl)) ?_
                 with_reducible refine (spec_l30Rd_pick.calls kj40 g s0_0 t289 4 t296 t297 w0 _ ?side1 ?side2 A67.out).mono ?_
                 (case side1 => repeat (first | (with_reducible first | exact HI0.out | apply IsS103.alloc | apply IsS103.drewN | apply IsS103.drew | apply IsS103.set_1 | refine IsS103.far ?_ NB0_260.out _ | refine IsS103.far ?_ NB0_269.out _) | exact HI0.out))
                 (case side2 => repeat (first | (with_reducible first | exact HB.out | apply yA | apply yN | apply yD | refine yS ?_ (IsS103.ge HI0.out) | refine yS ?_ GE260.out | refine yS ?_ GE269.out) | exact HB.out))
                 rintro e w76 ⟨rfl, hi, hb, hk⟩
                 refine ⟨_, rfl, ?_⟩
                 have n0_ := qM (Kd.R_mono (Kd.R_keep (IsS103.apart (show IsS103 w0 _ g s0_0 t289 from by repeat (first | (with_reducible first | exact HI0.out | apply IsS103.alloc | apply IsS103.drewN | apply IsS103.drew | apply IsS103.set_1 | refine IsS103.far ?_ NB0_260.out _ | refine IsS103.far ?_ NB0_269.out _) | exact HI0.out)) (qz HO_270001) (by decide)) hk (fun _ h => h.2)) (fun _ h => h.1))
                 have n1_ := qM (Kd.R_mono (Kd.R_keep (IsS103.apart (show IsS103 w0 _ g s0_0 t289 from by repeat (first | (with_reducible first | exact HI0.out | apply IsS103.alloc | apply IsS103.drewN | apply IsS103.drew | apply IsS103.set_1 | refine IsS103.far ?_ NB0_260.out _ | refine IsS103.far ?_ NB0_269.out _) | exact HI0.out)) (qz HO_270002) (by decide)) hk (fun _ h => h.2)) (fun _ h => h.1))
                 have n2_ := qM (KeepBut.blk hk (g' := gb260) (o := .cells #[.int .i64 0, .slice none 0 0, .slice none 0 0, .int .i64 0] 30 (0, 0)) (bz BK260) NB260_0.out (by simp))
                 have n3_ := qM (KeepBut.blk hk (g' := gb269) (o := .cells #[.int .i64 t270, u270001, u270002, .int .i64 x270003_40] 30 (0, 0)) (bz BK269) NB269_0.out (by simp))
                 have n4_ := qM (KeepBut.trans (by repeat (first | (with_reducible first | exact HK.out | apply KeepBut.set_ | apply keep_drewN | apply keep_drew | apply keep_alloc | refine keep_far ?_ GW260.out _ | refine keep_far ?_ GW269.out _) | exact HK.out)) hk (.inl rfl))
                 have n5_ := qM (hb)
                 have n6_ := qM (hi)
                 clear HO_270001 HO_270002 BK260 BK269 HK HB HI0
                 revert n0_ n1_ n2_ n3_ n4_ n5_ n6_
                 intro HO_270001 HO_270002 BK260 BK269 HK HB HI0
                 (try clear hb)
                 (try clear hb2)
                 (try clear hk)
                 (try clear hi)
                 refine hK.out _ _ ⟨(zC BK269.out 0).trans rfl, (zC BK269.out 1).trans rfl, (zC BK269.out 2).trans rfl, (zC BK269.out 3).trans rfl⟩ (fun hHeld => ?_)
                 clear hK K
                 refine norm_ (a' := ?_) ?_ ?_
                 rotate_left
                 ·show Act.put _ (some 60) _ = _
                  simp only [Act.put, List.setIfInBounds_toArray, List.set_cons_zero, List.set_cons_succ, i64_w, i32_w]
                  rfl
                 refine two_ (i := 4) (j := 6) (Ni := some 61) (Nj := some 63) #[true, true, true, true, true, true, false, false, false, false, false] #[true, true, true, true, false, true, true, false, false, false, false] rfl rfl rfl rfl (two_of HT_.out (by kernel_rfl)) (by decide) (by decide) (fun K hK => ?_) (fun K hK => ?_)
                 ·skip
                  refine Kd.R_lit_step (Kd.int .i64) _ 3 ?hg (N := 61) ?hd (xs := ([(-1), 256] : List Int)) (inner := [.int .i64 (-1), .int .i64 256]) (ok := fun _ => True) (okp := fun _ => True) ?hr ?hp (fun _ hk => hk) trivial (Below.refl _ _) (Nat.le_refl _) (by simp) ?_; (case hd => rfl); (case hg => rfl); (case hr => first | (go_simp; done) | (go_simp; rfl)); (case hp => exact (Reps.one (show Kd.M (Kd.int .i64) _ _ _ (-1) [.int .i64 (-1)] from rfl) (Reps.one (show Kd.M (Kd.int .i64) _ _ _ 256 [.int .i64 256] from rfl) (Reps.none _ _))))
                  intro v299 w77 ho78 hb hg_ hnew_
                  clear hg_ hnew_
                  (first | rw [← Ny298.out] at ho78 | (simp only [Int.reduceToNat] at ho78; rw [← Ny298.out] at ho78))
                  have n0_ := qM (Kd.R_elder' (qz HO_270001) (Kd.R_base ho78) hb)
                  have n1_ := qM (Kd.R_elder' (qz HO_270002) (Kd.R_base ho78) hb)
                  have n2_ := qM (Kd.R_lower (Kd.R_new' (Kd.R_new' ho78 (Kd.R_lt (qz HO_270001))) (Kd.R_lt (qz HO_270002))) (keep_size (w := w) (g := g) (row := none) (by repeat (first | (with_reducible first | exact HK.out | apply KeepBut.set_ | apply keep_drewN | apply keep_drew | apply keep_alloc | refine keep_far ?_ GW260.out _ | refine keep_far ?_ GW269.out _) | exact HK.out))))
                  have n3_ := qM (blk_below (bz BK260) hb)
                  have n4_ := qM (blk_below (bz BK269) hb)
                  have n5_ := qM (IsS103.below (by repeat (first | (with_reducible first | exact HI0.out | apply IsS103.alloc | apply IsS103.drewN | apply IsS103.drew | apply IsS103.set_1 | refine IsS103.far ?_ NB0_260.out _ | refine IsS103.far ?_ NB0_269.out _) | exact HI0.out)) hb)
                  have n6_ := qM (KeepBut.trans (by repeat (first | (with_reducible first | exact HK.out | apply KeepBut.set_ | apply keep_drewN | apply keep_drew | apply keep_alloc | refine keep_far ?_ GW260.out _ | refine keep_far ?_ GW269.out _) | exact HK.out)) (KeepBut.of_below hb g none) (.inl rfl))
                  have n7_ := qM (below_step (by repeat (first | (with_reducible first | exact HB.out | apply yA | apply yN | apply yD | refine yS ?_ (IsS103.ge HI0.out) | refine yS ?_ GE260.out | refine yS ?_ GE269.out) | exact HB.out)) hb)
                  clear HO_270001 HO_270002 BK260 BK269 HI0 HK HB
                  revert n0_ n1_ n2_ n3_ n4_ n5_ n6_ n7_
                  intro HO_270001 HO_270002 HO300 BK260 BK269 HI0 HK HB
                  clear hb ho78
                  obtain ⟨Ao79, co79, eo79⟩ := Kd.R_slice HO300.out
                  subst eo79
                  obtain ⟨ado79, fo79, _⟩ := Kd.at_int (qR HO300.out).2.2 0 (by decide) (by rw [Ny298.out]; simp)
                  cases fo79
                  refine hK.out _ _ ⟨(zC BK269.out 0).trans rfl, (zC BK269.out 1).trans rfl, (zC BK269.out 2).trans rfl, (zC BK269.out 3).trans rfl⟩ (fun hHeld => ?_)
                  clear hK K
                  refine norm_ (a' := ?_) ?_ ?_
                  rotate_left
                  ·show Act.put _ (some 61) _ = _
                   simp only [Act.put, List.setIfInBounds_toArray, List.set_cons_zero, List.set_cons_succ, i64_w, i32_w]
                   rfl
                  refine one_ (i := 6) (N := some 63) #[true, true, true, true, true, true, true, false, false, false, false] rfl rfl (one_of HT_.out (by kernel_rfl)) (by decide) (fun K hK => ?_)
                  refine goes_ Try.func73 (by kernel_rfl) rfl #[.pointer (some ⟨g, 0, none⟩), .int .i64 2] (by rfl) rfl rfl (by (try simp only [List.map_toArray, List.map_cons, List.map_nil]); first | done | rfl | (simp only [List.length_drop, List.length_take]; rfl)) ?_
                  with_reducible refine (spec_l30Rd_pick.calls kj40 g s0_0 t297 2 t301 t302 w0 _ ?side1 ?side2 A68.out).mono ?_
                  (case side1 => repeat (first | (with_reducible first | exact HI0.out | apply IsS103.alloc | apply IsS103.drewN | apply IsS103.drew | apply IsS103.set_1 | refine IsS103.far ?_ NB0_260.out _ | refine IsS103.far ?_ NB0_269.out _) | exact HI0.out))
                  (case side2 => repeat (first | (with_reducible first | exact HB.out | apply yA | apply yN | apply yD | refine yS ?_ (IsS103.ge HI0.out) | refine yS ?_ GE260.out | refine yS ?_ GE269.out) | exact HB.out))
                  rintro e w80 ⟨rfl, hi, hb, hk⟩
                  refine ⟨_, rfl, ?_⟩
                  have n0_ := qM (Kd.R_mono (Kd.R_keep (IsS103.apart (show IsS103 w0 _ g s0_0 t297 from by repeat (first | (with_reducible first | exact HI0.out | apply IsS103.alloc | apply IsS103.drewN | apply IsS103.drew | apply IsS103.set_1 | refine IsS103.far ?_ NB0_260.out _ | refine IsS103.far ?_ NB0_269.out _) | exact HI0.out)) (qz HO_270001) (by decide)) hk (fun _ h => h.2)) (fun _ h => h.1))
                  have n1_ := qM (Kd.R_mono (Kd.R_keep (IsS103.apart (show IsS103 w0 _ g s0_0 t297 from by repeat (first | (with_reducible first | exact HI0.out | apply IsS103.alloc | apply IsS103.drewN | apply IsS103.drew | apply IsS103.set_1 | refine IsS103.far ?_ NB0_260.out _ | refine IsS103.far ?_ NB0_269.out _) | exact HI0.out)) (qz HO_270002) (by decide)) hk (fun _ h => h.2)) (fun _ h => h.1))
                  have n2_ := qM (KeepBut.blk hk (g' := gb260) (o := .cells #[.int .i64 0, .slice none 0 0, .slice none 0 0, .int .i64 0] 30 (0, 0)) (bz BK260) NB260_0.out (by simp))
                  have n3_ := qM (KeepBut.blk hk (g' := gb269) (o := .cells #[.int .i64 t270, u270001, u270002, .int .i64 x270003_40] 30 (0, 0)) (bz BK269) NB269_0.out (by simp))
                  have n4_ := qM (Kd.R_mono (Kd.R_keep (IsS103.apart (show IsS103 w0 _ g s0_0 t297 from by repeat (first | (with_reducible first | exact HI0.out | apply IsS103.alloc | apply IsS103.drewN | apply IsS103.drew | apply IsS103.set_1 | refine IsS103.far ?_ NB0_260.out _ | refine IsS103.far ?_ NB0_269.out _) | exact HI0.out)) (qz HO300) (by decide)) hk (fun _ h => h.2)) (fun _ h => h.1))
                  have n5_ := qM (KeepBut.trans (by repeat (first | (with_reducible first | exact HK.out | apply KeepBut.set_ | apply keep_drewN | apply keep_drew | apply keep_alloc | refine keep_far ?_ GW260.out _ | refine keep_far ?_ GW269.out _) | exact HK.out)) hk (.inl rfl))
                  have n6_ := qM (hb)
                  have n7_ := qM (hi)
                  clear HO_270001 HO_270002 BK260 BK269 HO300 HK HB HI0
                  revert n0_ n1_ n2_ n3_ n4_ n5_ n6_ n7_
                  intro HO_270001 HO_270002 BK260 BK269 HO300 HK HB HI0
                  (try clear hb)
                  (try clear hb2)
                  (try clear hk)
                  (try clear hi)
                  refine hK.out _ _ ⟨(zC BK269.out 0).trans rfl, (zC BK269.out 1).trans rfl, (zC BK269.out 2).trans rfl, (zC BK269.out 3).trans rfl⟩ (fun hHeld => ?_)
                  clear hK K
                  refine norm_ (a' := ?_) ?_ ?_
                  rotate_left
                  ·show Act.put _ (some 63) _ = _
                   simp only [Act.put, List.setIfInBounds_toArray, List.set_cons_zero, List.set_cons_succ, i64_w, i32_w]
                   rfl
                  exact norm_ (by simp only [putAll, Act.put, List.setIfInBounds_toArray, List.set_cons_zero, List.set_cons_succ]) (hCont (.slice (some ado79) y298.length co79, ado79) _ ⟨hHeld, (by (with_reducible repeat (first | apply qA | apply qN | apply qD)); exact Kd.R_mono HO300.out (fun _ hk => ⟨hk.1.2, hk.2⟩)), (by (with_reducible repeat (first | apply qA | apply qN | apply qD)); exact Kd.R_mono HO_270001.out (fun _ hk => ⟨hk.2, hk.1⟩)), (by (with_reducible repeat (first | apply qA | apply qN | apply qD)); exact Kd.R_mono HO_270002.out (fun _ hk => ⟨hk.2, hk.1⟩)), ⟨_, rfl⟩, (bz BK260), (bz BK269), (by repeat (first | (with_reducible first | exact HI0.out | apply IsS103.alloc | apply IsS103.drewN | apply IsS103.drew | apply IsS103.set_1 | refine IsS103.far ?_ NB0_260.out _ | refine IsS103.far ?_ NB0_269.out _) | exact HI0.out)), (by repeat (first | (with_reducible first | exact HK.out | apply KeepBut.set_ | apply keep_drewN | apply keep_drew | apply keep_alloc | refine keep_far ?_ GW260.out _ | refine keep_far ?_ GW269.out _) | exact HK.out)), (by repeat (first | (with_reducible first | exact HB.out | apply yA | apply yN | apply yD | refine yS ?_ (IsS103.ge HI0.out) | refine yS ?_ GE260.out | refine yS ?_ GE269.out) | exact HB.out))⟩)
                 ·skip
                  refine goes_ Try.func73 (by kernel_rfl) rfl #[.pointer (some ⟨g, 0, none⟩), .int .i64 2] (by rfl) rfl rfl (by (try simp only [List.map_toArray, List.map_cons, List.map_nil]); first | done | rfl | (simp only [List.length_drop, List.length_take]; rfl)) ?_
                  with_reducible refine (spec_l30Rd_pick.calls kj40 g s0_0 t297 2 t301 t302 w0 _ ?side1 ?side2 A68.out).mono ?_
                  (case side1 => repeat (first | (with_reducible first | exact HI0.out | apply IsS103.alloc | apply IsS103.drewN | apply IsS103.drew | apply IsS103.set_1 | refine IsS103.far ?_ NB0_260.out _ | refine IsS103.far ?_ NB0_269.out _) | exact HI0.out))
                  (case side2 => repeat (first | (with_reducible first | exact HB.out | apply yA | apply yN | apply yD | refine yS ?_ (IsS103.ge HI0.out) | refine yS ?_ GE260.out | refine yS ?_ GE269.out) | exact HB.out))
                  rintro e w77 ⟨rfl, hi, hb, hk⟩
                  refine ⟨_, rfl, ?_⟩
                  have n0_ := qM (Kd.R_mono (Kd.R_keep (IsS103.apart (show IsS103 w0 _ g s0_0 t297 from by repeat (first | (with_reducible first | exact HI0.out | apply IsS103.alloc | apply IsS103.drewN | apply IsS103.drew | apply IsS103.set_1 | refine IsS103.far ?_ NB0_260.out _ | refine IsS103.far ?_ NB0_269.out _) | exact HI0.out)) (qz HO_270001) (by decide)) hk (fun _ h => h.2)) (fun _ h => h.1))
                  have n1_ := qM (Kd.R_mono (Kd.R_keep (IsS103.apart (show IsS103 w0 _ g s0_0 t297 from by repeat (first | (with_reducible first | exact HI0.out | apply IsS103.alloc | apply IsS103.drewN | apply IsS103.drew | apply IsS103.set_1 | refine IsS103.far ?_ NB0_260.out _ | refine IsS103.far ?_ NB0_269.out _) | exact HI0.out)) (qz HO_270002) (by decide)) hk (fun _ h => h.2)) (fun _ h => h.1))
                  have n2_ := qM (KeepBut.blk hk (g' := gb260) (o := .cells #[.int .i64 0, .slice none 0 0, .slice none 0 0, .int .i64 0] 30 (0, 0)) (bz BK260) NB260_0.out (by simp))
                  have n3_ := qM (KeepBut.blk hk (g' := gb269) (o := .cells #[.int .i64 t270, u270001, u270002, .int .i64 x270003_40] 30 (0, 0)) (bz BK269) NB269_0.out (by simp))
                  have n4_ := qM (KeepBut.trans (by repeat (first | (with_reducible first | exact HK.out | apply KeepBut.set_ | apply keep_drewN | apply keep_drew | apply keep_alloc | refine keep_far ?_ GW260.out _ | refine keep_far ?_ GW269.out _) | exact HK.out)) hk (.inl rfl))
                  have n5_ := qM (hb)
                  have n6_ := qM (hi)
                  clear HO_270001 HO_270002 BK260 BK269 HK HB HI0
                  revert n0_ n1_ n2_ n3_ n4_ n5_ n6_
                  intro HO_270001 HO_270002 BK260 BK269 HK HB HI0
                  (try clear hb)
                  (try clear hb2)
                  (try clear hk)
                  (try clear hi)
                  refine hK.out _ _ ⟨(zC BK269.out 0).trans rfl, (zC BK269.out 1).trans rfl, (zC BK269.out 2).trans rfl, (zC BK269.out 3).trans rfl⟩ (fun hHeld => ?_)
                  clear hK K
                  refine norm_ (a' := ?_) ?_ ?_
                  rotate_left
                  ·show Act.put _ (some 63) _ = _
                   simp only [Act.put, List.setIfInBounds_toArray, List.set_cons_zero, List.set_cons_succ, i64_w, i32_w]
                   rfl
                  refine one_ (i := 4) (N := some 61) #[true, true, true, true, true, true, true, false, false, false, false] rfl rfl (one_of HT_.out (by kernel_rfl)) (by decide) (fun K hK => ?_)
                  refine Kd.R_lit_step (Kd.int .i64) _ 3 ?hg (N := 61) ?hd (xs := ([(-1), 256] : List Int)) (inner := [.int .i64 (-1), .int .i64 256]) (ok := fun _ => True) (okp := fun _ => True) ?hr ?hp (fun _ hk => hk) trivial (Below.refl _ _) (Nat.le_refl _) (by simp) ?_; (case hd => rfl); (case hg => rfl); (case hr => first | (go_simp; done) | (go_simp; rfl)); (case hp => exact (Reps.one (show Kd.M (Kd.int .i64) _ _ _ (-1) [.int .i64 (-1)] from rfl) (Reps.one (show Kd.M (Kd.int .i64) _ _ _ 256 [.int .i64 256] from rfl) (Reps.none _ _))))
                  intro v299 w78 ho79 hb hg_ hnew_
                  clear hg_ hnew_
                  (first | rw [← Ny298.out] at ho79 | (simp only [Int.reduceToNat] at ho79; rw [← Ny298.out] at ho79))
                  have n0_ := qM (Kd.R_elder' (qz HO_270001) (Kd.R_base ho79) hb)
                  have n1_ := qM (Kd.R_elder' (qz HO_270002) (Kd.R_base ho79) hb)
                  have n2_ := qM (Kd.R_lower (Kd.R_new' (Kd.R_new' ho79 (Kd.R_lt (qz HO_270001))) (Kd.R_lt (qz HO_270002))) (keep_size (w := w) (g := g) (row := none) (by repeat (first | (with_reducible first | exact HK.out | apply KeepBut.set_ | apply keep_drewN | apply keep_drew | apply keep_alloc | refine keep_far ?_ GW260.out _ | refine keep_far ?_ GW269.out _) | exact HK.out))))
                  have n3_ := qM (blk_below (bz BK260) hb)
                  have n4_ := qM (blk_below (bz BK269) hb)
                  have n5_ := qM (IsS103.below (by repeat (first | (with_reducible first | exact HI0.out | apply IsS103.alloc | apply IsS103.drewN | apply IsS103.drew | apply IsS103.set_1 | refine IsS103.far ?_ NB0_260.out _ | refine IsS103.far ?_ NB0_269.out _) | exact HI0.out)) hb)
                  have n6_ := qM (KeepBut.trans (by repeat (first | (with_reducible first | exact HK.out | apply KeepBut.set_ | apply keep_drewN | apply keep_drew | apply keep_alloc | refine keep_far ?_ GW260.out _ | refine keep_far ?_ GW269.out _) | exact HK.out)) (KeepBut.of_below hb g none) (.inl rfl))
                  have n7_ := qM (below_step (by repeat (first | (with_reducible first | exact HB.out | apply yA | apply yN | apply yD | refine yS ?_ (IsS103.ge HI0.out) | refine yS ?_ GE260.out | refine yS ?_ GE269.out) | exact HB.out)) hb)
                  clear HO_270001 HO_270002 BK260 BK269 HI0 HK HB
                  revert n0_ n1_ n2_ n3_ n4_ n5_ n6_ n7_
                  intro HO_270001 HO_270002 HO300 BK260 BK269 HI0 HK HB
                  clear hb ho79
                  obtain ⟨Ao80, co80, eo80⟩ := Kd.R_slice HO300.out
                  subst eo80
                  obtain ⟨ado80, fo80, _⟩ := Kd.at_int (qR HO300.out).2.2 0 (by decide) (by rw [Ny298.out]; simp)
                  cases fo80
                  refine hK.out _ _ ⟨(zC BK269.out 0).trans rfl, (zC BK269.out 1).trans rfl, (zC BK269.out 2).trans rfl, (zC BK269.out 3).trans rfl⟩ (fun hHeld => ?_)
                  clear hK K
                  refine norm_ (a' := ?_) ?_ ?_
                  rotate_left
                  ·show Act.put _ (some 61) _ = _
                   simp only [Act.put, List.setIfInBounds_toArray, List.set_cons_zero, List.set_cons_succ, i64_w, i32_w]
                   rfl
                  exact norm_ (by simp only [putAll, Act.put, List.setIfInBounds_toArray, List.set_cons_zero, List.set_cons_succ]) (hCont (.slice (some ado80) y298.length co80, ado80) _ ⟨hHeld, (by (with_reducible repeat (first | apply qA | apply qN | apply qD)); exact Kd.R_mono HO300.out (fun _ hk => ⟨hk.1.2, hk.2⟩)), (by (with_reducible repeat (first | apply qA | apply qN | apply qD)); exact Kd.R_mono HO_270001.out (fun _ hk => ⟨hk.2, hk.1⟩)), (by (with_reducible repeat (first | apply qA | apply qN | apply qD)); exact Kd.R_mono HO_270002.out (fun _ hk => ⟨hk.2, hk.1⟩)), ⟨_, rfl⟩, (bz BK260), (bz BK269), (by repeat (first | (with_reducible first | exact HI0.out | apply IsS103.alloc | apply IsS103.drewN | apply IsS103.drew | apply IsS103.set_1 | refine IsS103.far ?_ NB0_260.out _ | refine IsS103.far ?_ NB0_269.out _) | exact HI0.out)), (by repeat (first | (with_reducible first | exact HK.out | apply KeepBut.set_ | apply keep_drewN | apply keep_drew | apply keep_alloc | refine keep_far ?_ GW260.out _ | refine keep_far ?_ GW269.out _) | exact HK.out)), (by repeat (first | (with_reducible first | exact HB.out | apply yA | apply yN | apply yD | refine yS ?_ (IsS103.ge HI0.out) | refine yS ?_ GE260.out | refine yS ?_ GE269.out) | exact HB.out))⟩)
                ·skip
                 refine Kd.R_lit_step (Kd.int .i64) _ 3 ?hg (N := 61) ?hd (xs := ([(-1), 256] : List Int)) (inner := [.int .i64 (-1), .int .i64 256]) (ok := fun _ => True) (okp := fun _ => True) ?hr ?hp (fun _ hk => hk) trivial (Below.refl _ _) (Nat.le_refl _) (by simp) ?_; (case hd => rfl); (case hg => rfl); (case hr => first | (go_simp; done) | (go_simp; rfl)); (case hp => exact (Reps.one (show Kd.M (Kd.int .i64) _ _ _ (-1) [.int .i64 (-1)] from rfl) (Reps.one (show Kd.M (Kd.int .i64) _ _ _ 256 [.int .i64 256] from rfl) (Reps.none _ _))))
                 intro v299 w76 ho77 hb hg_ hnew_
                 clear hg_ hnew_
                 (first | rw [← Ny298.out] at ho77 | (simp only [Int.reduceToNat] at ho77; rw [← Ny298.out] at ho77))
                 have n0_ := qM (Kd.R_elder' (qz HO_270001) (Kd.R_base ho77) hb)
                 have n1_ := qM (Kd.R_elder' (qz HO_270002) (Kd.R_base ho77) hb)
                 have n2_ := qM (Kd.R_lower (Kd.R_new' (Kd.R_new' ho77 (Kd.R_lt (qz HO_270001))) (Kd.R_lt (qz HO_270002))) (keep_size (w := w) (g := g) (row := none) (by repeat (first | (with_reducible first | exact HK.out | apply KeepBut.set_ | apply keep_drewN | apply keep_drew | apply keep_alloc | refine keep_far ?_ GW260.out _ | refine keep_far ?_ GW269.out _) | exact HK.out))))
                 have n3_ := qM (blk_below (bz BK260) hb)
                 have n4_ := qM (blk_below (bz BK269) hb)
                 have n5_ := qM (IsS103.below (by repeat (first | (with_reducible first | exact HI0.out | apply IsS103.alloc | apply IsS103.drewN | apply IsS103.drew | apply IsS103.set_1 | refine IsS103.far ?_ NB0_260.out _ | refine IsS103.far ?_ NB0_269.out _) | exact HI0.out)) hb)
                 have n6_ := qM (KeepBut.trans (by repeat (first | (with_reducible first | exact HK.out | apply KeepBut.set_ | apply keep_drewN | apply keep_drew | apply keep_alloc | refine keep_far ?_ GW260.out _ | refine keep_far ?_ GW269.out _) | exact HK.out)) (KeepBut.of_below hb g none) (.inl rfl))
                 have n7_ := qM (below_step (by repeat (first | (with_reducible first | exact HB.out | apply yA | apply yN | apply yD | refine yS ?_ (IsS103.ge HI0.out) | refine yS ?_ GE260.out | refine yS ?_ GE269.out) | exact HB.out)) hb)
                 clear HO_270001 HO_270002 BK260 BK269 HI0 HK HB
                 revert n0_ n1_ n2_ n3_ n4_ n5_ n6_ n7_
                 intro HO_270001 HO_270002 HO300 BK260 BK269 HI0 HK HB
                 clear hb ho77
                 obtain ⟨Ao78, co78, eo78⟩ := Kd.R_slice HO300.out
                 subst eo78
                 obtain ⟨ado78, fo78, _⟩ := Kd.at_int (qR HO300.out).2.2 0 (by decide) (by rw [Ny298.out]; simp)
                 cases fo78
                 refine hK.out _ _ ⟨(zC BK269.out 0).trans rfl, (zC BK269.out 1).trans rfl, (zC BK269.out 2).trans rfl, (zC BK269.out 3).trans rfl⟩ (fun hHeld => ?_)
                 clear hK K
                 refine norm_ (a' := ?_) ?_ ?_
                 rotate_left
                 ·show Act.put _ (some 61) _ = _
                  simp only [Act.put, List.setIfInBounds_toArray, List.set_cons_zero, List.set_cons_succ, i64_w, i32_w]
                  rfl
                 refine one_ (i := 3) (N := some 60) #[true, true, true, true, true, true, false, false, false, false, false] rfl rfl (one_of HT_.out (by kernel_rfl)) (by decide) (fun K hK => ?_)
                 refine goes_ Try.func73 (by kernel_rfl) rfl #[.pointer (some ⟨g, 0, none⟩), .int .i64 4] (by rfl) rfl rfl (by (try simp only [List.map_toArray, List.map_cons, List.map_nil]); first | done | rfl | (simp only [List.length_drop, List.length_take]; rfl)) ?_
                 with_reducible refine (spec_l30Rd_pick.calls kj40 g s0_0 t289 4 t296 t297 w0 _ ?side1 ?side2 A67.out).mono ?_
                 (case side1 => repeat (first | (with_reducible first | exact HI0.out | apply IsS103.alloc | apply IsS103.drewN | apply IsS103.drew | apply IsS103.set_1 | refine IsS103.far ?_ NB0_260.out _ | refine IsS103.far ?_ NB0_269.out _) | exact HI0.out))
                 (case side2 => repeat (first | (with_reducible first | exact HB.out | apply yA | apply yN | apply yD | refine yS ?_ (IsS103.ge HI0.out) | refine yS ?_ GE260.out | refine yS ?_ GE269.out) | exact HB.out))
                 rintro e w79 ⟨rfl, hi, hb, hk⟩
                 refine ⟨_, rfl, ?_⟩
                 have n0_ := qM (Kd.R_mono (Kd.R_keep (IsS103.apart (show IsS103 w0 _ g s0_0 t289 from by repeat (first | (with_reducible first | exact HI0.out | apply IsS103.alloc | apply IsS103.drewN | apply IsS103.drew | apply IsS103.set_1 | refine IsS103.far ?_ NB0_260.out _ | refine IsS103.far ?_ NB0_269.out _) | exact HI0.out)) (qz HO_270001) (by decide)) hk (fun _ h => h.2)) (fun _ h => h.1))
                 have n1_ := qM (Kd.R_mono (Kd.R_keep (IsS103.apart (show IsS103 w0 _ g s0_0 t289 from by repeat (first | (with_reducible first | exact HI0.out | apply IsS103.alloc | apply IsS103.drewN | apply IsS103.drew | apply IsS103.set_1 | refine IsS103.far ?_ NB0_260.out _ | refine IsS103.far ?_ NB0_269.out _) | exact HI0.out)) (qz HO_270002) (by decide)) hk (fun _ h => h.2)) (fun _ h => h.1))
                 have n2_ := qM (KeepBut.blk hk (g' := gb260) (o := .cells #[.int .i64 0, .slice none 0 0, .slice none 0 0, .int .i64 0] 30 (0, 0)) (bz BK260) NB260_0.out (by simp))
                 have n3_ := qM (KeepBut.blk hk (g' := gb269) (o := .cells #[.int .i64 t270, u270001, u270002, .int .i64 x270003_40] 30 (0, 0)) (bz BK269) NB269_0.out (by simp))
                 have n4_ := qM (Kd.R_mono (Kd.R_keep (IsS103.apart (show IsS103 w0 _ g s0_0 t289 from by repeat (first | (with_reducible first | exact HI0.out | apply IsS103.alloc | apply IsS103.drewN | apply IsS103.drew | apply IsS103.set_1 | refine IsS103.far ?_ NB0_260.out _ | refine IsS103.far ?_ NB0_269.out _) | exact HI0.out)) (qz HO300) (by decide)) hk (fun _ h => h.2)) (fun _ h => h.1))
                 have n5_ := qM (KeepBut.trans (by repeat (first | (with_reducible first | exact HK.out | apply KeepBut.set_ | apply keep_drewN | apply keep_drew | apply keep_alloc | refine keep_far ?_ GW260.out _ | refine keep_far ?_ GW269.out _) | exact HK.out)) hk (.inl rfl))
                 have n6_ := qM (hb)
                 have n7_ := qM (hi)
                 clear HO_270001 HO_270002 BK260 BK269 HO300 HK HB HI0
                 revert n0_ n1_ n2_ n3_ n4_ n5_ n6_ n7_
                 intro HO_270001 HO_270002 BK260 BK269 HO300 HK HB HI0
                 (try clear hb)
                 (try clear hb2)
                 (try clear hk)
                 (try clear hi)
                 refine hK.out _ _ ⟨(zC BK269.out 0).trans rfl, (zC BK269.out 1).trans rfl, (zC BK269.out 2).trans rfl, (zC BK269.out 3).trans rfl⟩ (fun hHeld => ?_)
                 clear hK K
                 refine norm_ (a' := ?_) ?_ ?_
                 rotate_left
                 ·show Act.put _ (some 60) _ = _
                  simp only [Act.put, List.setIfInBounds_toArray, List.set_cons_zero, List.set_cons_succ, i64_w, i32_w]
                  rfl
                 refine one_ (i := 6) (N := some 63) #[true, true, true, true, true, true, true, false, false, false, false] rfl rfl (one_of HT_.out (by kernel_rfl)) (by decide) (fun K hK => ?_)
                 refine goes_ Try.func73 (by kernel_rfl) rfl #[.pointer (some ⟨g, 0, none⟩), .int .i64 2] (by rfl) rfl rfl (by (try simp only [List.map_toArray, List.map_cons, List.map_nil]); first | done | rfl | (simp only [List.length_drop, List.length_take]; rfl)) ?_
                 with_reducible refine (spec_l30Rd_pick.calls kj40 g s0_0 t297 2 t301 t302 w0 _ ?side1 ?side2 A68.out).mono ?_
                 (case side1 => repeat (first | (with_reducible first | exact HI0.out | apply IsS103.alloc | apply IsS103.drewN | apply IsS103.drew | apply IsS103.set_1 | refine IsS103.far ?_ NB0_260.out _ | refine IsS103.far ?_ NB0_269.out _) | exact HI0.out))
                 (case side2 => repeat (first | (with_reducible first | exact HB.out | apply yA | apply yN | apply yD | refine yS ?_ (IsS103.ge HI0.out) | refine yS ?_ GE260.out | refine yS ?_ GE269.out) | exact HB.out))
                 rintro e w80 ⟨rfl, hi, hb, hk⟩
                 refine ⟨_, rfl, ?_⟩
                 have n0_ := qM (Kd.R_mono (Kd.R_keep (IsS103.apart (show IsS103 w0 _ g s0_0 t297 from by repeat (first | (with_reducible first | exact HI0.out | apply IsS103.alloc | apply IsS103.drewN | apply IsS103.drew | apply IsS103.set_1 | refine IsS103.far ?_ NB0_260.out _ | refine IsS103.far ?_ NB0_269.out _) | exact HI0.out)) (qz HO_270001) (by decide)) hk (fun _ h => h.2)) (fun _ h => h.1))
                 have n1_ := qM (Kd.R_mono (Kd.R_keep (IsS103.apart (show IsS103 w0 _ g s0_0 t297 from by repeat (first | (with_reducible first | exact HI0.out | apply IsS103.alloc | apply IsS103.drewN | apply IsS103.drew | apply IsS103.set_1 | refine IsS103.far ?_ NB0_260.out _ | refine IsS103.far ?_ NB0_269.out _) | exact HI0.out)) (qz HO_270002) (by decide)) hk (fun _ h => h.2)) (fun _ h => h.1))
                 have n2_ := qM (KeepBut.blk hk (g' := gb260) (o := .cells #[.int .i64 0, .slice none 0 0, .slice none 0 0, .int .i64 0] 30 (0, 0)) (bz BK260) NB260_0.out (by simp))
                 have n3_ := qM (KeepBut.blk hk (g' := gb269) (o := .cells #[.int .i64 t270, u270001, u270002, .int .i64 x270003_40] 30 (0, 0)) (bz BK269) NB269_0.out (by simp))
                 have n4_ := qM (Kd.R_mono (Kd.R_keep (IsS103.apart (show IsS103 w0 _ g s0_0 t297 from by repeat (first | (with_reducible first | exact HI0.out | apply IsS103.alloc | apply IsS103.drewN | apply IsS103.drew | apply IsS103.set_1 | refine IsS103.far ?_ NB0_260.out _ | refine IsS103.far ?_ NB0_269.out _) | exact HI0.out)) (qz HO300) (by decide)) hk (fun _ h => h.2)) (fun _ h => h.1))
                 have n5_ := qM (KeepBut.trans (by repeat (first | (with_reducible first | exact HK.out | apply KeepBut.set_ | apply keep_drewN | apply keep_drew | apply keep_alloc | refine keep_far ?_ GW260.out _ | refine keep_far ?_ GW269.out _) | exact HK.out)) hk (.inl rfl))
                 have n6_ := qM (hb)
                 have n7_ := qM (hi)
                 clear HO_270001 HO_270002 BK260 BK269 HO300 HK HB HI0
                 revert n0_ n1_ n2_ n3_ n4_ n5_ n6_ n7_
                 intro HO_270001 HO_270002 BK260 BK269 HO300 HK HB HI0
                 (try clear hb)
                 (try clear hb2)
                 (try clear hk)
                 (try clear hi)
                 refine hK.out _ _ ⟨(zC BK269.out 0).trans rfl, (zC BK269.out 1).trans rfl, (zC BK269.out 2).trans rfl, (zC BK269.out 3).trans rfl⟩ (fun hHeld => ?_)
                 clear hK K
                 refine norm_ (a' := ?_) ?_ ?_
                 rotate_left
                 ·show Act.put _ (some 63) _ = _
                  simp only [Act.put, List.setIfInBounds_toArray, List.set_cons_zero, List.set_cons_succ, i64_w, i32_w]
                  rfl
                 exact norm_ (by simp only [putAll, Act.put, List.setIfInBounds_toArray, List.set_cons_zero, List.set_cons_succ]) (hCont (.slice (some ado78) y298.length co78, ado78) _ ⟨hHeld, (by (with_reducible repeat (first | apply qA | apply qN | apply qD)); exact Kd.R_mono HO300.out (fun _ hk => ⟨hk.1.2, hk.2⟩)), (by (with_reducible repeat (first | apply qA | apply qN | apply qD)); exact Kd.R_mono HO_270001.out (fun _ hk => ⟨hk.2, hk.1⟩)), (by (with_reducible repeat (first | apply qA | apply qN | apply qD)); exact Kd.R_mono HO_270002.out (fun _ hk => ⟨hk.2, hk.1⟩)), ⟨_, rfl⟩, (bz BK260), (bz BK269), (by repeat (first | (with_reducible first | exact HI0.out | apply IsS103.alloc | apply IsS103.drewN | apply IsS103.drew | apply IsS103.set_1 | refine IsS103.far ?_ NB0_260.out _ | refine IsS103.far ?_ NB0_269.out _) | exact HI0.out)), (by repeat (first | (with_reducible first | exact HK.out | apply KeepBut.set_ | apply keep_drewN | apply keep_drew | apply keep_alloc | refine keep_far ?_ GW260.out _ | refine keep_far ?_ GW269.out _) | exact HK.out)), (by repeat (first | (with_reducible first | exact HB.out | apply yA | apply yN | apply yD | refine yS ?_ (IsS103.ge HI0.out) | refine yS ?_ GE260.out | refine yS ?_ GE269.out) | exact HB.out))⟩)
               rintro ⟨v299, adz_v299⟩ w81 ⟨hS_, h0_, h1_, h2_, h3_, h4_, h5_, h6_, h7_, h8_⟩
               have n0_ : Aside0 (Kd.R (Kd.int .i64) 3 w81 w.heap.size (fun k_ => some k_ ≠ (u270001 : Value).ownBlock ∧ some k_ ≠ (u270002 : Value).ownBlock) v299 y298) := ⟨h0_⟩
               have n1_ : Aside0 (Kd.R (Kd.int .i64) 3 w81 w.heap.size (fun k_ => some k_ ≠ (v299 : Value).ownBlock ∧ some k_ ≠ (u270002 : Value).ownBlock) u270001 x270001_2) := ⟨h1_⟩
               have n2_ : Aside0 (Kd.R (Kd.int .i64) 3 w81 w.heap.size (fun k_ => some k_ ≠ (v299 : Value).ownBlock ∧ some k_ ≠ (u270001 : Value).ownBlock) u270002 x270002_2) := ⟨h2_⟩
               have n3_ : Aside0 (∃ c_, (v299 : Value) = .slice (some adz_v299) y298.length c_) := ⟨h3_⟩
               have n4_ : Aside0 (w81.heap[gb260]? = some (.cells #[.int .i64 0, .slice none 0 0, .slice none 0 0, .int .i64 0] 30 (0, 0))) := ⟨h4_⟩
               have n5_ : Aside0 (w81.heap[gb269]? = some (.cells #[.int .i64 t270, u270001, u270002, .int .i64 x270003_40] 30 (0, 0))) := ⟨h5_⟩
               have n6_ : Aside0 (IsS103 w0 w81 g s0_0 t302) := ⟨h6_⟩
               have n7_ : Aside0 (KeepBut w w81 g none) := ⟨h7_⟩
               have n8_ : Aside0 (Below w0.heap.size w0 w81) := ⟨h8_⟩
               clear HO_270001 HO_270002 BK260 BK269 HI0 HK HB h0_ h1_ h2_ h3_ h4_ h5_ h6_ h7_ h8_
               revert n0_ n1_ n2_ n3_ n4_ n5_ n6_ n7_ n8_
               intro HO300 HO_270001 HO_270002 HA_HO300 BK260 BK269 HI0 HK HB
               have hHeld : w81.cell? ⟨gb269, 0, none⟩ = some (.int .i64 t270) ∧ w81.cell? ⟨gb269, 1, none⟩ = some (u270001) ∧ w81.cell? ⟨gb269, 2, none⟩ = some (u270002) ∧ w81.cell? ⟨gb269, 3, none⟩ = some (.int .i64 x270003_40) := hS_
               obtain ⟨co82, eo82⟩ := HA_HO300.out
               clear HA_HO300
               subst eo82
               have p73 : 0 ≤ (t296 : Int) := of_decide_eq_true (by first | (with_reducible assumption) | assumption)
               have q73 : (t296 : Int) < ((x270001_2.length : Int) : Int) := of_decide_eq_true (by first | (with_reducible assumption) | assumption)
               obtain ⟨go73, co73, eo73, gb73, gl73, cl73, HG73⟩ := Kd.R_form HO_270001.out (by omega)
               (first | cases eo73 | (injection eo73 with ea_ en_ ec_; (first | subst ea_ | (injection ea_ with ea_; subst ea_)); subst ec_; clear en_))
               have GB73 := qM gb73
               have GG73 := qM HG73
               clear gb73 gl73 HG73
               obtain ⟨hx73_0, hf73_0⟩ := Kd.R_celln 0 HO_270001.out (t296 : Int) p73 q73
               replace p73 := eq_true p73
               replace q73 := eq_true q73
               have HN0_go73 := qM (show g ≠ go73 from by have h_ := IsS103.own_ne HI0.out HO_270001.out (by decide); intro e_; exact h_ (by rw [e_]; rfl))
               have HP83 := Kd.R_putn HO_270001.out (t296 : Int) (rd y298 t301)
               rw [← Ny304.out] at HP83
               have HQ83 := qM HP83
               clear HP83
               refine norm_ (a' := ?_) ?_ ?_
               rotate_left
               ·simp only [putAll, Act.put, List.setIfInBounds_toArray, List.set_cons_zero, List.set_cons_succ]
                rfl
               refine pure_ (i := 7) (N := some 64) (v := ?_) (a' := ?_) #[true, true, true, true, true, true, true, true, false, false, false] rfl rfl (any_of HT_.out (by kernel_rfl)) (fun _ _ _ h => h) (Or.inl ⟨by rfl, ?_⟩) ?_ ?_
               rotate_left
               ·intro w'
                go_simp
                with_reducible rfl
               rotate_left
               ·simp only [Act.put, List.setIfInBounds_toArray, List.set_cons_zero, List.set_cons_succ, i64_w, i32_w]
                rfl
               refine one_ (i := 8) (N := some 65) #[true, true, true, true, true, true, true, true, true, false, false] rfl rfl (one_of HT_.out (by kernel_rfl)) (by decide) (fun K hK => ?_)
               (have p303 : 0 ≤ (t301 : Int) := of_decide_eq_true (by first | (with_reducible assumption) | assumption); have q303 : t301 < (y298.length : Int) := of_decide_eq_true (by first | (with_reducible assumption) | assumption); obtain ⟨ad303, e303, hx303_0⟩ := Kd.at_int (qR HO300.out).2.2 t301 p303 q303; obtain rfl : adz_v299 = ad303 := (by injection e303))
               refine value_ (w1 := ?_) (v := ?_) (by rfl) rfl ?_ ?_
               rotate_left 2
               ·go_simp
                constructor
                ·rfl
                ·rfl
               clear hx303_0
               refine hK.out _ _ ⟨(zC BK269.out 0).trans rfl, (zC BK269.out 1).trans rfl, (zC BK269.out 2).trans rfl, (zC BK269.out 3).trans rfl⟩ (fun hHeld => ?_)
               clear hK K
               refine norm_ (a' := ?_) ?_ ?_
               rotate_left
               ·show Act.put _ (some 65) _ = _
                simp only [Act.put, List.setIfInBounds_toArray, List.set_cons_zero, List.set_cons_succ, i64_w, i32_w]
                rfl
               refine pure_ (i := 9) (N := some 66) (v := ?_) (a' := ?_) #[true, true, true, true, true, true, true, true, true, true, false] rfl rfl (any_of HT_.out (by kernel_rfl)) (fun _ _ _ h => h) (Or.inl ⟨by rfl, ?_⟩) ?_ ?_
               rotate_left
               ·intro w'
                go_simp
                with_reducible rfl
               rotate_left
               ·simp only [Act.put, List.setIfInBounds_toArray, List.set_cons_zero, List.set_cons_succ, i64_w, i32_w]
                rfl
               refine last_ (i := 10) (N := none) #[true, true, true, true, true, true, true, true, true, true, true] rfl rfl (one_of HT_.out (by kernel_rfl)) (by decide) (fun K hK => ?_)
               refine skip_ (w1 := ?_) (by rfl) rfl ?_ ?_
               rotate_left
               ·go_simp
                rfl
               refine hK.out _ _ ?_
               clear hK K
               refine done_ (done_of HT_.out (by kernel_rfl)) ?_
               have n0_ : Aside0 (Kd.R (Kd.int .i64) 3 (w81.setCell ⟨go73, (t296 : Int).toNat, none⟩ (.int .i64 (rd y298 t301))) w.heap.size (fun k_ => some k_ ≠ (u270002 : Value).ownBlock ∧ some k_ ≠ (.slice (some adz_v299) y298.length co82 : Value).ownBlock) (.slice (some ⟨go73, 0, none⟩) x270001_2.length co73) y304) := ⟨by (with_reducible repeat (first | apply qA | apply qN | apply qD)); exact Kd.R_mono HQ83.out (fun _ hk => ⟨hk.2, hk.1⟩)⟩
               have n1_ : Aside0 (Kd.R (Kd.int .i64) 3 (w81.setCell ⟨go73, (t296 : Int).toNat, none⟩ (.int .i64 (rd y298 t301))) w.heap.size (fun k_ => some k_ ≠ (.slice (some ⟨go73, 0, none⟩) x270001_2.length co73 : Value).ownBlock ∧ some k_ ≠ (.slice (some adz_v299) y298.length co82 : Value).ownBlock) u270002 x270002_2) := ⟨by (with_reducible repeat (first | apply qA | apply qN | apply qD)); exact Kd.R_mono (qF (p := ⟨go73, (t296 : Int).toNat, none⟩) (Kd.R_mono HO_270002.out (fun k_ hk => (⟨hk, fun e_ => hk.2 (by rw [e_]; rfl)⟩ : _ ∧ k_ ≠ go73))) (fun _ hk => hk.2) (.int .i64 (rd y298 t301))) (fun _ hk => ⟨hk.1.2, hk.1.1⟩)⟩
               have n2_ : Aside0 (Kd.R (Kd.int .i64) 3 (w81.setCell ⟨go73, (t296 : Int).toNat, none⟩ (.int .i64 (rd y298 t301))) w.heap.size (fun k_ => some k_ ≠ (.slice (some ⟨go73, 0, none⟩) x270001_2.length co73 : Value).ownBlock ∧ some k_ ≠ (u270002 : Value).ownBlock) (.slice (some adz_v299) y298.length co82) y298) := ⟨by (with_reducible repeat (first | apply qA | apply qN | apply qD)); exact Kd.R_mono (qF (p := ⟨go73, (t296 : Int).toNat, none⟩) (Kd.R_mono HO300.out (fun k_ hk => (⟨hk, fun e_ => hk.1 (by rw [e_]; rfl)⟩ : _ ∧ k_ ≠ go73))) (fun _ hk => hk.2) (.int .i64 (rd y298 t301))) (fun _ hk => ⟨hk.1.1, hk.1.2⟩)⟩
               have n3_ : Aside0 ((w81.setCell ⟨go73, (t296 : Int).toNat, none⟩ (.int .i64 (rd y298 t301))).heap[gb260]? = some (.cells #[.int .i64 0, .slice none 0 0, .slice none 0 0, .int .i64 0] 30 (0, 0))) := ⟨by (with_reducible repeat (first | refine zN ?_ _ | refine zD ?_ | refine zA ?_ _)); refine blk_far ?_ (by have h_ := Kd.R_ne HO_270001.out BK260.out (by decide); intro e_; exact h_ (by rw [e_]; rfl)) _; (with_reducible repeat (first | refine zN ?_ _ | refine zD ?_ | refine zA ?_ _)); exact BK260.out⟩
               have n4_ : Aside0 ((w81.setCell ⟨go73, (t296 : Int).toNat, none⟩ (.int .i64 (rd y298 t301))).heap[gb269]? = some (.cells #[.int .i64 t270, .slice (some ⟨go73, 0, none⟩) x270001_2.length co73, u270002, .int .i64 x270003_40] 30 (0, 0))) := ⟨by (with_reducible repeat (first | refine zN ?_ _ | refine zD ?_ | refine zA ?_ _)); refine blk_far ?_ (by have h_ := Kd.R_ne HO_270001.out BK269.out (by decide); intro e_; exact h_ (by rw [e_]; rfl)) _; (with_reducible repeat (first | refine zN ?_ _ | refine zD ?_ | refine zA ?_ _)); exact BK269.out⟩
               have n5_ : Aside0 (IsS103 w0 (w81.setCell ⟨go73, (t296 : Int).toNat, none⟩ (.int .i64 (rd y298 t301))) g s0_0 t302) := ⟨by repeat (first | (with_reducible first | exact HI0.out | apply IsS103.alloc | apply IsS103.drewN | apply IsS103.drew | apply IsS103.set_1 | refine IsS103.far ?_ HN0_go73.out _ | refine IsS103.far ?_ NB0_260.out _ | refine IsS103.far ?_ NB0_269.out _) | exact HI0.out)⟩
               have n6_ : Aside0 (KeepBut w (w81.setCell ⟨go73, (t296 : Int).toNat, none⟩ (.int .i64 (rd y298 t301))) g none) := ⟨by repeat (first | (with_reducible first | exact HK.out | apply KeepBut.set_ | apply keep_drewN | apply keep_drew | apply keep_alloc | refine keep_far ?_ GB73.out _ | refine keep_far ?_ GW260.out _ | refine keep_far ?_ GW269.out _) | exact HK.out)⟩
               have n7_ : Aside0 (Below w0.heap.size w0 (w81.setCell ⟨go73, (t296 : Int).toNat, none⟩ (.int .i64 (rd y298 t301)))) := ⟨by repeat (first | (with_reducible first | exact HB.out | apply yA | apply yN | apply yD | refine yS ?_ (Nat.le_trans HL.out GB73.out) | refine yS ?_ (IsS103.ge HI0.out) | refine yS ?_ GE260.out | refine yS ?_ GE269.out) | exact HB.out)⟩
               (try clear HO_270001)
               (try clear HO_270002)
               (try clear HO300)
               (try clear BK260)
               (try clear BK269)
               (try clear HI0)
               (try clear HK)
               (try clear HB)
               generalize (w81.setCell ⟨go73, (t296 : Int).toNat, none⟩ (.int .i64 (rd y298 t301))) = w84 at n0_ n1_ n2_ n3_ n4_ n5_ n6_ n7_ ⊢
               revert n0_ n1_ n2_ n3_ n4_ n5_ n6_ n7_
               intro HO_270001 HO_270002 HO300 BK260 BK269 HI0 HK HB
               have hnb85 := NB269_260.out
               have hnc85 := NB260_269.out
               have hnb86 := NB269_0.out
               have hnc86 := NB0_269.out
               have hcz87_0 : w84.cell? ⟨gb269, 0, none⟩ = some (.int .i64 t270) := (zC BK269.out 0).trans rfl
               have hcz87_1 : w84.cell? ⟨gb269, 1, none⟩ = some (.slice (some ⟨go73, 0, none⟩) x270001_2.length co73) := (zC BK269.out 1).trans rfl
               have hcz87_2 : w84.cell? ⟨gb269, 2, none⟩ = some (u270002) := (zC BK269.out 2).trans rfl
               have hcz87_3 : w84.cell? ⟨gb269, 3, none⟩ = some (.int .i64 x270003_40) := (zC BK269.out 3).trans rfl
               have hfz87_0 := zF BK269.out 0
               have hfz87_1 := zF BK269.out 1
               have hfz87_2 := zF BK269.out 2
               have hfz87_3 := zF BK269.out 3
               have hnb88 := NB260_0.out
               have hnc88 := NB0_260.out
               have hcz89_0 : w84.cell? ⟨gb260, 0, none⟩ = some (.int .i64 0) := (zC BK260.out 0).trans rfl
               have hcz89_1 : w84.cell? ⟨gb260, 1, none⟩ = some (.slice none 0 0) := (zC BK260.out 1).trans rfl
               have hcz89_2 : w84.cell? ⟨gb260, 2, none⟩ = some (.slice none 0 0) := (zC BK260.out 2).trans rfl
               have hcz89_3 : w84.cell? ⟨gb260, 3, none⟩ = some (.int .i64 0) := (zC BK260.out 3).trans rfl
               have hfz89_0 := zF BK260.out 0
               have hfz89_1 := zF BK260.out 1
               have hfz89_2 := zF BK260.out 2
               have hfz89_3 := zF BK260.out 3
               obtain ⟨Ao90, co90, eo90⟩ := Kd.R_slice HO_270002.out
               subst eo90
               try go_wp2
               refine bodyPost_ret (results_cell_row rfl _ _ gb260 30 #[.int .i64 t270, .slice (some ⟨go73, 0, none⟩) x270001_2.length co73, .slice Ao90 x270002_2.length co90, .int .i64 x270003_40] (0, 0) _ rfl (by (with_reducible repeat (first | refine zN ?_ _ | refine zD ?_ | refine zA ?_ _)); refine blk_put (cs := #[.int .i64 t270, .slice (some ⟨go73, 0, none⟩) x270001_2.length co73, .slice Ao90 x270002_2.length co90, .int .i64 0]) ?_ 3 _ rfl; (with_reducible repeat (first | refine zN ?_ _ | refine zD ?_ | refine zA ?_ _)); refine blk_put (cs := #[.int .i64 t270, .slice (some ⟨go73, 0, none⟩) x270001_2.length co73, .slice none 0 0, .int .i64 0]) ?_ 2 _ rfl; (with_reducible repeat (first | refine zN ?_ _ | refine zD ?_ | refine zA ?_ _)); refine blk_put (cs := #[.int .i64 t270, .slice none 0 0, .slice none 0 0, .int .i64 0]) ?_ 1 _ rfl; (with_reducible repeat (first | refine zN ?_ _ | refine zD ?_ | refine zA ?_ _)); refine blk_put (cs := #[.int .i64 0, .slice none 0 0, .slice none 0 0, .int .i64 0]) ?_ 0 _ rfl; (with_reducible repeat (first | refine zN ?_ _ | refine zD ?_ | refine zA ?_ _)); exact BK260.out) Try.underlying30 rfl (by kernel_rfl)) rfl ?_
               exact ⟨_, _, by first | rfl | (simp [errW_none, errW_some] <;> rfl) | (simp [*, errW_none, errW_some] <;> rfl), by (with_reducible repeat (first | apply qA | apply qN | apply qD)); exact Kd.R_mono (qF (p := ⟨gb260, 3, none⟩) (qF (p := ⟨gb260, 2, none⟩) (qF (p := ⟨gb260, 1, none⟩) (qF (p := ⟨gb260, 0, none⟩) (Kd.R_types HO_270001.out BK260.out (by decide)) (fun _ hk => hk.2) (.int .i64 t270)) (fun _ hk => hk.2) (.slice (some ⟨go73, 0, none⟩) x270001_2.length co73)) (fun _ hk => hk.2) (.slice Ao90 x270002_2.length co90)) (fun _ hk => hk.2) (.int .i64 x270003_40)) (fun _ hk => hk.1.1), by (with_reducible repeat (first | apply qA | apply qN | apply qD)); exact Kd.R_mono (qF (p := ⟨gb260, 3, none⟩) (qF (p := ⟨gb260, 2, none⟩) (qF (p := ⟨gb260, 1, none⟩) (qF (p := ⟨gb260, 0, none⟩) (Kd.R_types HO_270002.out BK260.out (by decide)) (fun _ hk => hk.2) (.int .i64 t270)) (fun _ hk => hk.2) (.slice (some ⟨go73, 0, none⟩) x270001_2.length co73)) (fun _ hk => hk.2) (.slice Ao90 x270002_2.length co90)) (fun _ hk => hk.2) (.int .i64 x270003_40)) (fun _ hk => hk.1.1), by repeat (first | (with_reducible first | exact HI0.out | apply IsS103.alloc | apply IsS103.drewN | apply IsS103.drew | apply IsS103.set_1 | refine IsS103.far ?_ NB0_260.out _ | refine IsS103.far ?_ NB0_269.out _) | exact HI0.out), by repeat (first | (with_reducible first | exact HB.out | apply yA | apply yN | apply yD | refine yS ?_ (IsS103.ge HI0.out) | refine yS ?_ GE260.out | refine yS ?_ GE269.out) | exact HB.out), by repeat (first | (with_reducible first | exact HK.out | apply KeepBut.set_ | apply keep_drewN | apply keep_drew | apply keep_alloc | refine keep_far ?_ GW260.out _ | refine keep_far ?_ GW269.out _) | exact HK.out)⟩
              ·rw [if_neg c72] at H
               exact absurd H (by simp)
             ·rw [if_neg c71] at H
              exact absurd H (by simp)
            ·rw [if_neg c70] at H
             exact absurd H (by simp)
           ·rw [if_neg c69] at H
            exact absurd H (by simp)
          ·rw [if_neg c66] at H
           have c66b0 : (t288 == 1) = false := beq_eq_false_iff_ne.mpr c66
           have c66b1 : (t288 != 1) = true := bne_iff_ne.mpr c66
           by_cases c91 : t288 = 2
           ·rw [if_pos c91] at H
            have c91b0 : (t288 == 2) = true := beq_iff_eq.mpr c91
            have c91b1 : (t288 != 2) = false := bne_eq_false_iff_eq.mpr c91
            clear c91
            by_cases c92 : x270002_2.length < 17592186044416
            ·rw [if_pos c92] at H
             have LMc92 := qM c92
             clear c92
             obtain ⟨y305, hy305⟩ : ∃ y_ : List Int, y_ = (x270002_2 ++ [0]) := ⟨_, rfl⟩
             replace H : (some (t270, x270001_2, y305, x270003_40, t289)) = some (r1, r2, r3, r4, r5) := by first | (rw [hy305]; with_reducible exact H) | (have H2_ := (Option.bind_some _ _).symm.trans H; rw [hy305]; with_reducible exact H2_) | (have H2_ := (Option.bind_some _ _).symm.trans H; with_reducible exact H2_) | with_reducible exact H | (rw [hy305]; exact H) | exact H
             have Ny305 := qM hy305
             clear hy305
             simp only [Option.some.injEq, Prod.mk.injEq] at H
             obtain ⟨rfl, rfl, rfl, rfl, rfl⟩ := H
             go_wp2_with (first | ((with_reducible refine gate_callee (f := 73) rfl ?_); refine goesL_ (some 46) rfl rfl Try.func73 (by kernel_rfl) rfl #[.pointer (some ⟨g, 0, none⟩), .int .i64 24] rfl (by (try simp only [List.map_toArray, List.map_cons, List.map_nil]); first | done | rfl | (simp only [List.length_drop, List.length_take]; rfl)) ?_; (with_reducible refine (spec_l30Rd_pick.calls kj40 g s0_0 x1001_40 24 t288 t289 w0 _ ?side1 ?side2 A49.out).mono ?_); (case side1 => repeat (first | (with_reducible first | exact HI0.out | apply IsS103.alloc | apply IsS103.drewN | apply IsS103.drew | apply IsS103.set_1 | refine IsS103.far ?_ NB0_260.out _ | refine IsS103.far ?_ NB0_269.out _) | exact HI0.out)); (case side2 => repeat (first | (with_reducible first | exact HB.out | apply yA | apply yN | apply yD | refine yS ?_ (IsS103.ge HI0.out) | refine yS ?_ GE260.out | refine yS ?_ GE269.out) | exact HB.out)); rintro e w93 ⟨rfl, hi, hb, hk⟩; refine ⟨_, rfl, ?_⟩; have n0_ := qM (Kd.R_mono (Kd.R_keep (IsS103.apart (show IsS103 w0 _ g s0_0 x1001_40 from by repeat (first | (with_reducible first | exact HI0.out | apply IsS103.alloc | apply IsS103.drewN | apply IsS103.drew | apply IsS103.set_1 | refine IsS103.far ?_ NB0_260.out _ | refine IsS103.far ?_ NB0_269.out _) | exact HI0.out)) (qz HO_270001) (by decide)) hk (fun _ h => h.2)) (fun _ h => h.1)); have n1_ := qM (Kd.R_mono (Kd.R_keep (IsS103.apart (show IsS103 w0 _ g s0_0 x1001_40 from by repeat (first | (with_reducible first | exact HI0.out | apply IsS103.alloc | apply IsS103.drewN | apply IsS103.drew | apply IsS103.set_1 | refine IsS103.far ?_ NB0_260.out _ | refine IsS103.far ?_ NB0_269.out _) | exact HI0.out)) (qz HO_270002) (by decide)) hk (fun _ h => h.2)) (fun _ h => h.1)); have n2_ := qM (KeepBut.blk hk (g' := gb260) (o := .cells #[.int .i64 0, .slice none 0 0, .slice none 0 0, .int .i64 0] 30 (0, 0)) (bz BK260) NB260_0.out (by simp)); have n3_ := qM (KeepBut.blk hk (g' := gb269) (o := .cells #[.int .i64 t270, u270001, u270002, .int .i64 x270003_40] 30 (0, 0)) (bz BK269) NB269_0.out (by simp)); have n4_ := qM (KeepBut.trans (by repeat (first | (with_reducible first | exact HK.out | apply KeepBut.set_ | apply keep_drewN | apply keep_drew | apply keep_alloc | refine keep_far ?_ GW260.out _ | refine keep_far ?_ GW269.out _) | exact HK.out)) hk (.inl rfl)); have n5_ := qM (hb); have n6_ := qM (hi); clear HO_270001 HO_270002 BK260 BK269 HK HB HI0; revert n0_ n1_ n2_ n3_ n4_ n5_ n6_; intro HO_270001 HO_270002 BK260 BK269 HK HB HI0; (try clear hb); (try clear hb2); (try clear hk); (try clear hi); have hnb94 := NB269_260.out; have hnc94 := NB260_269.out; have hnb95 := NB269_0.out; have hnc95 := NB0_269.out; have hcz96_0 : w93.cell? ⟨gb269, 0, none⟩ = some (.int .i64 t270) := (zC BK269.out 0).trans rfl; have hcz96_1 : w93.cell? ⟨gb269, 1, none⟩ = some (u270001) := (zC BK269.out 1).trans rfl; have hcz96_2 : w93.cell? ⟨gb269, 2, none⟩ = some (u270002) := (zC BK269.out 2).trans rfl; have hcz96_3 : w93.cell? ⟨gb269, 3, none⟩ = some (.int .i64 x270003_40) := (zC BK269.out 3).trans rfl; have hfz96_0 := zF BK269.out 0; have hfz96_1 := zF BK269.out 1; have hfz96_2 := zF BK269.out 2; have hfz96_3 := zF BK269.out 3) | ((with_reducible refine gate_builtin (b := .append) (xs := #[.tmp 70, .tmp 71]) rfl ?_); at_builtin; refine Kd.R_append (Kd.int .i64) w.heap.size rfl (.tmp 70) (.tmp 71) 22 3 (.int .i64 0) 8 rfl Try.underlying22 info3 rfl (by decide) (by omega) u270002 x270002_2 0 [.int .i64 0] (fun k_ => some k_ ≠ (u270001 : Value).ownBlock) (fun _ => False) rfl rfl ?aP (fun _ hk => hk.elim) ?aF ?aO (Below.refl _ _) ?aS ?aL ?_; (case aP => exact rfl); (case aF => exact (fun k_ hk => Kd.fresh' (Kd.R_lt (qz HO_270001)) k_ hk)); (case aO => exact (qz HO_270002)); (case aS => exact (keep_size (w := w) (g := g) (row := none) (by repeat (first | (with_reducible first | exact HK.out | apply KeepBut.set_ | apply keep_drewN | apply keep_drew | apply keep_alloc | refine keep_far ?_ GW260.out _ | refine keep_far ?_ GW269.out _) | exact HK.out)))); (case aL => have := LMc92.out; omega); intro v306 w97 ho hb hg hat; rw [← Ny305.out] at ho; have n0_ := qM (Kd.R_after (ok := (fun _ => True)) (by (with_reducible repeat (first | apply qA | apply qN | apply qD)); exact Kd.R_mono HO_270001.out (fun _ hk => ⟨trivial, hk⟩)) hg hat); have n1_ := qM (blk_grown (g := gb260) (o := .cells #[.int .i64 0, .slice none 0 0, .slice none 0 0, .int .i64 0] 30 (0, 0)) (bz BK260) hg (Kd.R_ne HO_270002.out BK260.out (by decide))); have n2_ := qM (blk_grown (g := gb269) (o := .cells #[.int .i64 t270, u270001, u270002, .int .i64 x270003_40] 30 (0, 0)) (bz BK269) hg (Kd.R_ne HO_270002.out BK269.out (by decide))); have n3_ := qM (IsS103.grown (by repeat (first | (with_reducible first | exact HI0.out | apply IsS103.alloc | apply IsS103.drewN | apply IsS103.drew | apply IsS103.set_1 | refine IsS103.far ?_ NB0_260.out _ | refine IsS103.far ?_ NB0_269.out _) | exact HI0.out)) hg (IsS103.own_ne HI0.out HO_270002.out (by decide))); have n4_ := qM (below_weaken (by repeat (first | (with_reducible first | exact HB.out | apply yA | apply yN | apply yD | refine yS ?_ (IsS103.ge HI0.out) | refine yS ?_ GE260.out | refine yS ?_ GE269.out) | exact HB.out)) HL.out hb); have n5_ := qM (KeepBut.trans (by repeat (first | (with_reducible first | exact HK.out | apply KeepBut.set_ | apply keep_drewN | apply keep_drew | apply keep_alloc | refine keep_far ?_ GW260.out _ | refine keep_far ?_ GW269.out _) | exact HK.out)) (KeepBut.of_grown hg g) (Kd.R_base2 HO_270002.out)); have n6_ := qM (ho); clear HO_270001 BK260 BK269 HI0 HB HK HO_270002; revert n0_ n1_ n2_ n3_ n4_ n5_ n6_; intro HO_270001 BK260 BK269 HI0 HB HK HO307; clear ho hb hg hat; obtain ⟨Ao98, co98, eo98⟩ := Kd.R_slice HO307.out; subst eo98; have hcz99_0 : w97.cell? ⟨gb269, 0, none⟩ = some (.int .i64 t270) := (zC BK269.out 0).trans rfl; have hcz99_1 : w97.cell? ⟨gb269, 1, none⟩ = some (u270001) := (zC BK269.out 1).trans rfl; have hcz99_2 : w97.cell? ⟨gb269, 2, none⟩ = some (u270002) := (zC BK269.out 2).trans rfl; have hcz99_3 : w97.cell? ⟨gb269, 3, none⟩ = some (.int .i64 x270003_40) := (zC BK269.out 3).trans rfl; have hfz99_0 := zF BK269.out 0; have hfz99_1 := zF BK269.out 1; have hfz99_2 := zF BK269.out 2; have hfz99_3 := zF BK269.out 3; have hnb100 := NB260_0.out; have hnc100 := NB0_260.out; have hcz101_0 : w97.cell? ⟨gb260, 0, none⟩ = some (.int .i64 0) := (zC BK260.out 0).trans rfl; have hcz101_1 : w97.cell? ⟨gb260, 1, none⟩ = some (.slice none 0 0) := (zC BK260.out 1).trans rfl; have hcz101_2 : w97.cell? ⟨gb260, 2, none⟩ = some (.slice none 0 0) := (zC BK260.out 2).trans rfl; have hcz101_3 : w97.cell? ⟨gb260, 3, none⟩ = some (.int .i64 0) := (zC BK260.out 3).trans rfl; have hfz101_0 := zF BK260.out 0; have hfz101_1 := zF BK260.out 1; have hfz101_2 := zF BK260.out 2; have hfz101_3 := zF BK260.out 3; obtain ⟨Ao102, co102, eo102⟩ := Kd.R_slice HO_270001.out; subst eo102))
             refine bodyPost_ret (results_cell_row rfl _ _ gb260 30 #[.int .i64 t270, .slice Ao102 x270001_2.length co102, .slice Ao98 y305.length co98, .int .i64 x270003_40] (0, 0) _ rfl (by (with_reducible repeat (first | refine zN ?_ _ | refine zD ?_ | refine zA ?_ _)); refine blk_put (cs := #[.int .i64 t270, .slice Ao102 x270001_2.length co102, .slice Ao98 y305.length co98, .int .i64 0]) ?_ 3 _ rfl; (with_reducible repeat (first | refine zN ?_ _ | refine zD ?_ | refine zA ?_ _)); refine blk_put (cs := #[.int .i64 t270, .slice Ao102 x270001_2.length co102, .slice none 0 0, .int .i64 0]) ?_ 2 _ rfl; (with_reducible repeat (first | refine zN ?_ _ | refine zD ?_ | refine zA ?_ _)); refine blk_put (cs := #[.int .i64 t270, .slice none 0 0, .slice none 0 0, .int .i64 0]) ?_ 1 _ rfl; (with_reducible repeat (first | refine zN ?_ _ | refine zD ?_ | refine zA ?_ _)); refine blk_put (cs := #[.int .i64 0, .slice none 0 0, .slice none 0 0, .int .i64 0]) ?_ 0 _ rfl; (with_reducible repeat (first | refine zN ?_ _ | refine zD ?_ | refine zA ?_ _)); refine blk_far ?_ NB260_269.out _; (with_reducible repeat (first | refine zN ?_ _ | refine zD ?_ | refine zA ?_ _)); exact BK260.out) Try.underlying30 rfl (by kernel_rfl)) rfl ?_
             exact ⟨_, _, by first | rfl | (simp [errW_none, errW_some] <;> rfl) | (simp [*, errW_none, errW_some] <;> rfl), by (with_reducible repeat (first | apply qA | apply qN | apply qD)); exact Kd.R_mono (qF (p := ⟨gb260, 3, none⟩) (qF (p := ⟨gb260, 2, none⟩) (qF (p := ⟨gb260, 1, none⟩) (qF (p := ⟨gb260, 0, none⟩) (qF (p := ⟨gb269, 2, none⟩) (Kd.R_types (Kd.R_types HO_270001.out BK269.out (by decide)) BK260.out (by decide)) (fun _ hk => hk.1.2) (.slice Ao98 y305.length co98)) (fun _ hk => hk.2) (.int .i64 t270)) (fun _ hk => hk.2) (.slice Ao102 x270001_2.length co102)) (fun _ hk => hk.2) (.slice Ao98 y305.length co98)) (fun _ hk => hk.2) (.int .i64 x270003_40)) (fun _ hk => hk.1.1.2), by (with_reducible repeat (first | apply qA | apply qN | apply qD)); exact Kd.R_mono (qF (p := ⟨gb260, 3, none⟩) (qF (p := ⟨gb260, 2, none⟩) (qF (p := ⟨gb260, 1, none⟩) (qF (p := ⟨gb260, 0, none⟩) (qF (p := ⟨gb269, 2, none⟩) (Kd.R_types (Kd.R_types HO307.out BK269.out (by decide)) BK260.out (by decide)) (fun _ hk => hk.1.2) (.slice Ao98 y305.length co98)) (fun _ hk => hk.2) (.int .i64 t270)) (fun _ hk => hk.2) (.slice Ao102 x270001_2.length co102)) (fun _ hk => hk.2) (.slice Ao98 y305.length co98)) (fun _ hk => hk.2) (.int .i64 x270003_40)) (fun _ hk => hk.1.1), by repeat (first | (with_reducible first | exact HI0.out | apply IsS103.alloc | apply IsS103.drewN | apply IsS103.drew | apply IsS103.set_1 | refine IsS103.far ?_ NB0_260.out _ | refine IsS103.far ?_ NB0_269.out _) | exact HI0.out), by repeat (first | (with_reducible first | exact HB.out | apply yA | apply yN | apply yD | refine yS ?_ (IsS103.ge HI0.out) | refine yS ?_ GE260.out | refine yS ?_ GE269.out) | exact HB.out), by repeat (first | (with_reducible first | exact HK.out | apply KeepBut.set_ | apply keep_drewN | apply keep_drew | apply keep_alloc | refine keep_far ?_ GW260.out _ | refine keep_far ?_ GW269.out _) | exact HK.out)⟩
            ·rw [if_neg c92] at H
             exact absurd H (by simp)
           ·rw [if_neg c91] at H
            have c91b0 : (t288 == 2) = false := beq_eq_false_iff_ne.mpr c91
            have c91b1 : (t288 != 2) = true := bne_iff_ne.mpr c91
            by_cases c103 : t288 = 3
            ·rw [if_pos c103] at H
             have c103b0 : (t288 == 3) = true := beq_iff_eq.mpr c103
             have c103b1 : (t288 != 3) = false := bne_eq_false_iff_eq.mpr c103
             clear c103
             obtain ⟨y308, hy308⟩ : ∃ y_ : List Int, y_ = (([(-1), 3] : List Int)) := ⟨_, rfl⟩
             replace H : ((spec_l30Rd_pick.f kj40 s0_0 t289 2).bind fun bt311 => (if 0 ≤ bt311.1 then (if bt311.1 < (y308.length : Int) then (some (t270, x270001_2, x270002_2, rd y308 bt311.1, bt311.2)) else (none)) else (none))) = some (r1, r2, r3, r4, r5) := by first | (rw [hy308]; with_reducible exact H) | (have H2_ := (Option.bind_some _ _).symm.trans H; rw [hy308]; with_reducible exact H2_) | (have H2_ := (Option.bind_some _ _).symm.trans H; with_reducible exact H2_) | with_reducible exact H | (rw [hy308]; exact H) | exact H
             have Ny308 := qM hy308
             clear hy308
             replace H := Option.bind_eq_some_iff.mp H
             obtain ⟨⟨t311, t312⟩, A1040, H⟩ := H
             replace H : (if 0 ≤ t311 then (if t311 < (y308.length : Int) then (some (t270, x270001_2, x270002_2, rd y308 t311, t312)) else (none)) else (none)) = some (r1, r2, r3, r4, r5) := H
             have A104 := qM A1040
             clear A1040
             by_cases c105 : 0 ≤ t311
             ·rw [if_pos c105] at H
              have c105b0 : decide (0 ≤ t311) = true := decide_eq_true c105
              clear c105
              by_cases c106 : t311 < (y308.length : Int)
              ·rw [if_pos c106] at H
               have c106b0 : decide (t311 < (y308.length : Int)) = true := decide_eq_true c106
               clear c106
               simp only [Option.some.injEq, Prod.mk.injEq] at H
               obtain ⟨rfl, rfl, rfl, rfl, rfl⟩ := H
               go_wp2_with (first | ((with_reducible refine gate_callee (f := 73) rfl ?_); refine goesL_ (some 46) rfl rfl Try.func73 (by kernel_rfl) rfl #[.pointer (some ⟨g, 0, none⟩), .int .i64 24] rfl (by (try simp only [List.map_toArray, List.map_cons, List.map_nil]); first | done | rfl | (simp only [List.length_drop, List.length_take]; rfl)) ?_; (with_reducible refine (spec_l30Rd_pick.calls kj40 g s0_0 x1001_40 24 t288 t289 w0 _ ?side1 ?side2 A49.out).mono ?_); (case side1 => repeat (first | (with_reducible first | exact HI0.out | apply IsS103.alloc | apply IsS103.drewN | apply IsS103.drew | apply IsS103.set_1 | refine IsS103.far ?_ NB0_260.out _ | refine IsS103.far ?_ NB0_269.out _) | exact HI0.out)); (case side2 => repeat (first | (with_reducible first | exact HB.out | apply yA | apply yN | apply yD | refine yS ?_ (IsS103.ge HI0.out) | refine yS ?_ GE260.out | refine yS ?_ GE269.out) | exact HB.out)); rintro e w107 ⟨rfl, hi, hb, hk⟩; refine ⟨_, rfl, ?_⟩; have n0_ := qM (Kd.R_mono (Kd.R_keep (IsS103.apart (show IsS103 w0 _ g s0_0 x1001_40 from by repeat (first | (with_reducible first | exact HI0.out | apply IsS103.alloc | apply IsS103.drewN | apply IsS103.drew | apply IsS103.set_1 | refine IsS103.far ?_ NB0_260.out _ | refine IsS103.far ?_ NB0_269.out _) | exact HI0.out)) (qz HO_270001) (by decide)) hk (fun _ h => h.2)) (fun _ h => h.1)); have n1_ := qM (Kd.R_mono (Kd.R_keep (IsS103.apart (show IsS103 w0 _ g s0_0 x1001_40 from by repeat (first | (with_reducible first | exact HI0.out | apply IsS103.alloc | apply IsS103.drewN | apply IsS103.drew | apply IsS103.set_1 | refine IsS103.far ?_ NB0_260.out _ | refine IsS103.far ?_ NB0_269.out _) | exact HI0.out)) (qz HO_270002) (by decide)) hk (fun _ h => h.2)) (fun _ h => h.1)); have n2_ := qM (KeepBut.blk hk (g' := gb260) (o := .cells #[.int .i64 0, .slice none 0 0, .slice none 0 0, .int .i64 0] 30 (0, 0)) (bz BK260) NB260_0.out (by simp)); have n3_ := qM (KeepBut.blk hk (g' := gb269) (o := .cells #[.int .i64 t270, u270001, u270002, .int .i64 x270003_40] 30 (0, 0)) (bz BK269) NB269_0.out (by simp)); have n4_ := qM (KeepBut.trans (by repeat (first | (with_reducible first | exact HK.out | apply KeepBut.set_ | apply keep_drewN | apply keep_drew | apply keep_alloc | refine keep_far ?_ GW260.out _ | refine keep_far ?_ GW269.out _) | exact HK.out)) hk (.inl rfl)); have n5_ := qM (hb); have n6_ := qM (hi); clear HO_270001 HO_270002 BK260 BK269 HK HB HI0; revert n0_ n1_ n2_ n3_ n4_ n5_ n6_; intro HO_270001 HO_270002 BK260 BK269 HK HB HI0; (try clear hb); (try clear hb2); (try clear hk); (try clear hi)) | ((with_reducible refine gate_dst (N := 76) rfl ?_); refine Kd.R_lit (Kd.int .i64) _ 3 ?hg (N := 76) ?hd (xs := ([(-1), 3] : List Int)) (inner := [.int .i64 (-1), .int .i64 3]) (ok := fun _ => True) (okp := fun _ => True) ?hr ?hp (fun _ hk => hk) trivial (Below.refl _ _) (Nat.le_refl _) (by simp) ?_; (case hd => rfl); (case hg => rfl); (case hr => first | (go_simp; done) | (go_simp; rfl)); (case hp => exact (Reps.one (show Kd.M (Kd.int .i64) _ _ _ (-1) [.int .i64 (-1)] from rfl) (Reps.one (show Kd.M (Kd.int .i64) _ _ _ 3 [.int .i64 3] from rfl) (Reps.none _ _)))); intro v309 w108 ho109 hb hg_ hnew_; clear hg_ hnew_; (first | rw [← Ny308.out] at ho109 | (simp only [Int.reduceToNat] at ho109; rw [← Ny308.out] at ho109)); have n0_ := qM (Kd.R_elder' (qz HO_270001) (Kd.R_base ho109) hb); have n1_ := qM (Kd.R_elder' (qz HO_270002) (Kd.R_base ho109) hb); have n2_ := qM (Kd.R_lower (Kd.R_new' (Kd.R_new' ho109 (Kd.R_lt (qz HO_270001))) (Kd.R_lt (qz HO_270002))) (keep_size (w := w) (g := g) (row := none) (by repeat (first | (with_reducible first | exact HK.out | apply KeepBut.set_ | apply keep_drewN | apply keep_drew | apply keep_alloc | refine keep_far ?_ GW260.out _ | refine keep_far ?_ GW269.out _) | exact HK.out)))); have n3_ := qM (blk_below (bz BK260) hb); have n4_ := qM (blk_below (bz BK269) hb); have n5_ := qM (IsS103.below (by repeat (first | (with_reducible first | exact HI0.out | apply IsS103.alloc | apply IsS103.drewN | apply IsS103.drew | apply IsS103.set_1 | refine IsS103.far ?_ NB0_260.out _ | refine IsS103.far ?_ NB0_269.out _) | exact HI0.out)) hb); have n6_ := qM (KeepBut.trans (by repeat (first | (with_reducible first | exact HK.out | apply KeepBut.set_ | apply keep_drewN | apply keep_drew | apply keep_alloc | refine keep_far ?_ GW260.out _ | refine keep_far ?_ GW269.out _) | exact HK.out)) (KeepBut.of_below hb g none) (.inl rfl)); have n7_ := qM (below_step (by repeat (first | (with_reducible first | exact HB.out | apply yA | apply yN | apply yD | refine yS ?_ (IsS103.ge HI0.out) | refine yS ?_ GE260.out | refine yS ?_ GE269.out) | exact HB.out)) hb); clear HO_270001 HO_270002 BK260 BK269 HI0 HK HB; revert n0_ n1_ n2_ n3_ n4_ n5_ n6_ n7_; intro HO_270001 HO_270002 HO310 BK260 BK269 HI0 HK HB; clear hb ho109) | ((with_reducible refine gate_callee (f := 73) rfl ?_); refine goesL_ (some 78) rfl rfl Try.func73 (by kernel_rfl) rfl #[.pointer (some ⟨g, 0, none⟩), .int .i64 2] rfl (by (try simp only [List.map_toArray, List.map_cons, List.map_nil]); first | done | rfl | (simp only [List.length_drop, List.length_take]; rfl)) ?_; (with_reducible refine (spec_l30Rd_pick.calls kj40 g s0_0 t289 2 t311 t312 w0 _ ?side1 ?side2 A104.out).mono ?_); (case side1 => repeat (first | (with_reducible first | exact HI0.out | apply IsS103.alloc | apply IsS103.drewN | apply IsS103.drew | apply IsS103.set_1 | refine IsS103.far ?_ NB0_260.out _ | refine IsS103.far ?_ NB0_269.out _) | exact HI0.out)); (case side2 => repeat (first | (with_reducible first | exact HB.out | apply yA | apply yN | apply yD | refine yS ?_ (IsS103.ge HI0.out) | refine yS ?_ GE260.out | refine yS ?_ GE269.out) | exact HB.out)); rintro e w110 ⟨rfl, hi, hb, hk⟩; refine ⟨_, rfl, ?_⟩; have n0_ := qM (Kd.R_mono (Kd.R_keep (IsS103.apart (show IsS103 w0 _ g s0_0 t289 from by repeat (first | (with_reducible first | exact HI0.out | apply IsS103.alloc | apply IsS103.drewN | apply IsS103.drew | apply IsS103.set_1 | refine IsS103.far ?_ NB0_260.out _ | refine IsS103.far ?_ NB0_269.out _) | exact HI0.out)) (qz HO_270001) (by decide)) hk (fun _ h => h.2)) (fun _ h => h.1)); have n1_ := qM (Kd.R_mono (Kd.R_keep (IsS103.apart (show IsS103 w0 _ g s0_0 t289 from by repeat (first | (with_reducible first | exact HI0.out | apply IsS103.alloc | apply IsS103.drewN | apply IsS103.drew | apply IsS103.set_1 | refine IsS103.far ?_ NB0_260.out _ | refine IsS103.far ?_ NB0_269.out _) | exact HI0.out)) (qz HO_270002) (by decide)) hk (fun _ h => h.2)) (fun _ h => h.1)); have n2_ := qM (KeepBut.blk hk (g' := gb260) (o := .cells #[.int .i64 0, .slice none 0 0, .slice none 0 0, .int .i64 0] 30 (0, 0)) (bz BK260) NB260_0.out (by simp)); have n3_ := qM (KeepBut.blk hk (g' := gb269) (o := .cells #[.int .i64 t270, u270001, u270002, .int .i64 x270003_40] 30 (0, 0)) (bz BK269) NB269_0.out (by simp)); have n4_ := qM (Kd.R_mono (Kd.R_keep (IsS103.apart (show IsS103 w0 _ g s0_0 t289 from by repeat (first | (with_reducible first | exact HI0.out | apply IsS103.alloc | apply IsS103.drewN | apply IsS103.drew | apply IsS103.set_1 | refine IsS103.far ?_ NB0_260.out _ | refine IsS103.far ?_ NB0_269.out _) | exact HI0.out)) (qz HO310) (by decide)) hk (fun _ h => h.2)) (fun _ h => h.1)); have n5_ := qM (KeepBut.trans (by repeat (first | (with_reducible first | exact HK.out | apply KeepBut.set_ | apply keep_drewN | apply keep_drew | apply keep_alloc | refine keep_far ?_ GW260.out _ | refine keep_far ?_ GW269.out _) | exact HK.out)) hk (.inl rfl)); have n6_ := qM (hb); have n7_ := qM (hi); clear HO_270001 HO_270002 BK260 BK269 HO310 HK HB HI0; revert n0_ n1_ n2_ n3_ n4_ n5_ n6_ n7_; intro HO_270001 HO_270002 BK260 BK269 HO310 HK HB HI0; (try clear hb); (try clear hb2); (try clear hk); (try clear hi); obtain ⟨Ao111, co111, eo111⟩ := Kd.R_slice HO310.out; subst eo111; have p313 : 0 ≤ (t311 : Int) := of_decide_eq_true (by first | (with_reducible assumption) | assumption); have q313 : t311 < (y308.length : Int) := of_decide_eq_true (by first | (with_reducible assumption) | assumption); obtain ⟨ad313, e313, hx313_0⟩ := Kd.at_int (qR HO310.out).2.2 t311 p313 q313; cases e313; replace p313 := eq_true p313; replace q313 := eq_true q313; have hnb112 := NB269_260.out; have hnc112 := NB260_269.out; have hnb113 := NB269_0.out; have hnc113 := NB0_269.out; have hcz114_0 : w110.cell? ⟨gb269, 0, none⟩ = some (.int .i64 t270) := (zC BK269.out 0).trans rfl; have hcz114_1 : w110.cell? ⟨gb269, 1, none⟩ = some (u270001) := (zC BK269.out 1).trans rfl; have hcz114_2 : w110.cell? ⟨gb269, 2, none⟩ = some (u270002) := (zC BK269.out 2).trans rfl; have hcz114_3 : w110.cell? ⟨gb269, 3, none⟩ = some (.int .i64 x270003_40) := (zC BK269.out 3).trans rfl; have hfz114_0 := zF BK269.out 0; have hfz114_1 := zF BK269.out 1; have hfz114_2 := zF BK269.out 2; have hfz114_3 := zF BK269.out 3; have hnb115 := NB260_0.out; have hnc115 := NB0_260.out; have hcz116_0 : w110.cell? ⟨gb260, 0, none⟩ = some (.int .i64 0) := (zC BK260.out 0).trans rfl; have hcz116_1 : w110.cell? ⟨gb260, 1, none⟩ = some (.slice none 0 0) := (zC BK260.out 1).trans rfl; have hcz116_2 : w110.cell? ⟨gb260, 2, none⟩ = some (.slice none 0 0) := (zC BK260.out 2).trans rfl; have hcz116_3 : w110.cell? ⟨gb260, 3, none⟩ = some (.int .i64 0) := (zC BK260.out 3).trans rfl; have hfz116_0 := zF BK260.out 0; have hfz116_1 := zF BK260.out 1; have hfz116_2 := zF BK260.out 2; have hfz116_3 := zF BK260.out 3; obtain ⟨Ao117, co117, eo117⟩ := Kd.R_slice HO_270001.out; subst eo117; obtain ⟨Ao118, co118, eo118⟩ := Kd.R_slice HO_270002.out; subst eo118))
               refine bodyPost_ret (results_cell_row rfl _ _ gb260 30 #[.int .i64 t270, .slice Ao117 x270001_2.length co117, .slice Ao118 x270002_2.length co118, .int .i64 (rd y308 t311)] (0, 0) _ rfl (by (with_reducible repeat (first | refine zN ?_ _ | refine zD ?_ | refine zA ?_ _)); refine blk_put (cs := #[.int .i64 t270, .slice Ao117 x270001_2.length co117, .slice Ao118 x270002_2.length co118, .int .i64 0]) ?_ 3 _ rfl; (with_reducible repeat (first | refine zN ?_ _ | refine zD ?_ | refine zA ?_ _)); refine blk_put (cs := #[.int .i64 t270, .slice Ao117 x270001_2.length co117, .slice none 0 0, .int .i64 0]) ?_ 2 _ rfl; (with_reducible repeat (first | refine zN ?_ _ | refine zD ?_ | refine zA ?_ _)); refine blk_put (cs := #[.int .i64 t270, .slice none 0 0, .slice none 0 0, .int .i64 0]) ?_ 1 _ rfl; (with_reducible repeat (first | refine zN ?_ _ | refine zD ?_ | refine zA ?_ _)); refine blk_put (cs := #[.int .i64 0, .slice none 0 0, .slice none 0 0, .int .i64 0]) ?_ 0 _ rfl; (with_reducible repeat (first | refine zN ?_ _ | refine zD ?_ | refine zA ?_ _)); refine blk_far ?_ NB260_269.out _; (with_reducible repeat (first | refine zN ?_ _ | refine zD ?_ | refine zA ?_ _)); exact BK260.out) Try.underlying30 rfl (by kernel_rfl)) rfl ?_
               exact ⟨_, _, by first | rfl | (simp [errW_none, errW_some] <;> rfl) | (simp [*, errW_none, errW_some] <;> rfl), by (with_reducible repeat (first | apply qA | apply qN | apply qD)); exact Kd.R_mono (qF (p := ⟨gb260, 3, none⟩) (qF (p := ⟨gb260, 2, none⟩) (qF (p := ⟨gb260, 1, none⟩) (qF (p := ⟨gb260, 0, none⟩) (qF (p := ⟨gb269, 3, none⟩) (Kd.R_types (Kd.R_types HO_270001.out BK269.out (by decide)) BK260.out (by decide)) (fun _ hk => hk.1.2) (.int .i64 (rd y308 t311))) (fun _ hk => hk.2) (.int .i64 t270)) (fun _ hk => hk.2) (.slice Ao117 x270001_2.length co117)) (fun _ hk => hk.2) (.slice Ao118 x270002_2.length co118)) (fun _ hk => hk.2) (.int .i64 (rd y308 t311))) (fun _ hk => hk.1.1.1), by (with_reducible repeat (first | apply qA | apply qN | apply qD)); exact Kd.R_mono (qF (p := ⟨gb260, 3, none⟩) (qF (p := ⟨gb260, 2, none⟩) (qF (p := ⟨gb260, 1, none⟩) (qF (p := ⟨gb260, 0, none⟩) (qF (p := ⟨gb269, 3, none⟩) (Kd.R_types (Kd.R_types HO_270002.out BK269.out (by decide)) BK260.out (by decide)) (fun _ hk => hk.1.2) (.int .i64 (rd y308 t311))) (fun _ hk => hk.2) (.int .i64 t270)) (fun _ hk => hk.2) (.slice Ao117 x270001_2.length co117)) (fun _ hk => hk.2) (.slice Ao118 x270002_2.length co118)) (fun _ hk => hk.2) (.int .i64 (rd y308 t311))) (fun _ hk => hk.1.1.1), by repeat (first | (with_reducible first | exact HI0.out | apply IsS103.alloc | apply IsS103.drewN | apply IsS103.drew | apply IsS103.set_1 | refine IsS103.far ?_ NB0_260.out _ | refine IsS103.far ?_ NB0_269.out _) | exact HI0.out), by repeat (first | (with_reducible first | exact HB.out | apply yA | apply yN | apply yD | refine yS ?_ (IsS103.ge HI0.out) | refine yS ?_ GE260.out | refine yS ?_ GE269.out) | exact HB.out), by repeat (first | (with_reducible first | exact HK.out | apply KeepBut.set_ | apply keep_drewN | apply keep_drew | apply keep_alloc | refine keep_far ?_ GW260.out _ | refine keep_far ?_ GW269.out _) | exact HK.out)⟩
              ·rw [if_neg c106] at H
               exact absurd H (by simp)
             ·rw [if_neg c105] at H
              exact absurd H (by simp)
            ·rw [if_neg c103] at H
             have c103b0 : (t288 == 3) = false := beq_eq_false_iff_ne.mpr c103
             have c103b1 : (t288 != 3) = true := bne_iff_ne.mpr c103
             by_cases c119 : t288 = 4
             ·rw [if_pos c119] at H
              have c119b0 : (t288 == 4) = true := beq_iff_eq.mpr c119
              have c119b1 : (t288 != 4) = false := bne_eq_false_iff_eq.mpr c119
              clear c119
              replace H := Option.bind_eq_some_iff.mp H
              obtain ⟨⟨t314, t315⟩, A1200, H⟩ := H
              replace H : (if 0 ≤ t314 then (if t314 < (x270002_2.length : Int) then (some (t270, x270001_2, (x270002_2.set (t314 : Int).toNat 256), x270003_40, t315)) else (none)) else (none)) = some (r1, r2, r3, r4, r5) := H
              have A120 := qM A1200
              clear A1200
              by_cases c121 : 0 ≤ t314
              ·rw [if_pos c121] at H
               have c121b0 : decide (0 ≤ t314) = true := decide_eq_true c121
               clear c121
               by_cases c122 : t314 < (x270002_2.length : Int)
               ·rw [if_pos c122] at H
                have c122b0 : decide (t314 < (x270002_2.length : Int)) = true := decide_eq_true c122
                clear c122
                obtain ⟨y316, hy316⟩ : ∃ y_ : List Int, y_ = (x270002_2.set (t314 : Int).toNat 256) := ⟨_, rfl⟩
                replace H : (some (t270, x270001_2, y316, x270003_40, t315)) = some (r1, r2, r3, r4, r5) := by first | (rw [hy316]; with_reducible exact H) | (have H2_ := (Option.bind_some _ _).symm.trans H; rw [hy316]; with_reducible exact H2_) | (have H2_ := (Option.bind_some _ _).symm.trans H; with_reducible exact H2_) | with_reducible exact H | (rw [hy316]; exact H) | exact H
                have Ny316 := qM hy316
                clear hy316
                simp only [Option.some.injEq, Prod.mk.injEq] at H
                obtain ⟨rfl, rfl, rfl, rfl, rfl⟩ := H
                try go_wp2_with (first | ((with_reducible refine gate_callee (f := 73) rfl ?_); refine goesL_ (some 46) rfl rfl Try.func73 (by kernel_rfl) rfl #[.pointer (some ⟨g, 0, none⟩), .int .i64 24] rfl (by (try simp only [List.map_toArray, List.map_cons, List.map_nil]); first | done | rfl | (simp only [List.length_drop, List.length_take]; rfl)) ?_; (with_reducible refine (spec_l30Rd_pick.calls kj40 g s0_0 x1001_40 24 t288 t289 w0 _ ?side1 ?side2 A49.out).mono ?_); (case side1 => repeat (first | (with_reducible first | exact HI0.out | apply IsS103.alloc | apply IsS103.drewN | apply IsS103.drew | apply IsS103.set_1 | refine IsS103.far ?_ NB0_260.out _ | refine IsS103.far ?_ NB0_269.out _) | exact HI0.out)); (case side2 => repeat (first | (with_reducible first | exact HB.out | apply yA | apply yN | apply yD | refine yS ?_ (IsS103.ge HI0.out) | refine yS ?_ GE260.out | refine yS ?_ GE269.out) | exact HB.out)); rintro e w124 ⟨rfl, hi, hb, hk⟩; refine ⟨_, rfl, ?_⟩; have n0_ := qM (Kd.R_mono (Kd.R_keep (IsS103.apart (show IsS103 w0 _ g s0_0 x1001_40 from by repeat (first | (with_reducible first | exact HI0.out | apply IsS103.alloc | apply IsS103.drewN | apply IsS103.drew | apply IsS103.set_1 | refine IsS103.far ?_ NB0_260.out _ | refine IsS103.far ?_ NB0_269.out _) | exact HI0.out)) (qz HO_270001) (by decide)) hk (fun _ h => h.2)) (fun _ h => h.1)); have n1_ := qM (Kd.R_mono (Kd.R_keep (IsS103.apart (show IsS103 w0 _ g s0_0 x1001_40 from by repeat (first | (with_reducible first | exact HI0.out | apply IsS103.alloc | apply IsS103.drewN | apply IsS103.drew | apply IsS103.set_1 | refine IsS103.far ?_ NB0_260.out _ | refine IsS103.far ?_ NB0_269.out _) | exact HI0.out)) (qz HO_270002) (by decide)) hk (fun _ h => h.2)) (fun _ h => h.1)); have n2_ := qM (KeepBut.blk hk (g' := gb260) (o := .cells #[.int .i64 0, .slice none 0 0, .slice none 0 0, .int .i64 0] 30 (0, 0)) (bz BK260) NB260_0.out (by simp)); have n3_ := qM (KeepBut.blk hk (g' := gb269) (o := .cells #[.int .i64 t270, u270001, u270002, .int .i64 x270003_40] 30 (0, 0)) (bz BK269) NB269_0.out (by simp)); have n4_ := qM (KeepBut.trans (by repeat (first | (with_reducible first | exact HK.out | apply KeepBut.set_ | apply keep_drewN | apply keep_drew | apply keep_alloc | refine keep_far ?_ GW260.out _ | refine keep_far ?_ GW269.out _) | exact HK.out)) hk (.inl rfl)); have n5_ := qM (hb); have n6_ := qM (hi); clear HO_270001 HO_270002 BK260 BK269 HK HB HI0; revert n0_ n1_ n2_ n3_ n4_ n5_ n6_; intro HO_270001 HO_270002 BK260 BK269 HK HB HI0; (try clear hb); (try clear hb2); (try clear hk); (try clear hi)))
                have n0_ := qM (qD HO_270001.out)
                have n1_ := qM (qD HO_270002.out)
                have n2_ := qM (zD BK260.out)
                have n3_ := qM (zD BK269.out)
                have n4_ := qM (IsS103.drew HI0.out)
                have n5_ := qM (keep_drew HK.out)
                have n6_ := qM (yD HB.out)
                clear HO_270001 HO_270002 BK260 BK269 HI0 HK HB
                revert n0_ n1_ n2_ n3_ n4_ n5_ n6_
                intro HO_270001 HO_270002 BK260 BK269 HI0 HK HB
                refine start_ (n := 6) (S := fun w' => w'.cell? ⟨gb269, 0, none⟩ = some (.int .i64 t270) ∧ w'.cell? ⟨gb269, 1, none⟩ = some (u270001) ∧ w'.cell? ⟨gb269, 2, none⟩ = some (u270002) ∧ w'.cell? ⟨gb269, 3, none⟩ = some (.int .i64 x270003_40)) (ds := [5]) #[false, false, false, false, false, false] (by kernel_rfl) rfl rfl ⟨(zC BK269.out 0).trans rfl, (zC BK269.out 1).trans rfl, (zC BK269.out 2).trans rfl, (zC BK269.out 3).trans rfl⟩ (fun hHeld => ?_)
                generalize w124.drew = w125 at HO_270001 HO_270002 BK260 BK269 HI0 HK HB hHeld ⊢
                refine pure_ (i := 0) (N := some 84) (v := ?_) (a' := ?_) #[true, false, false, false, false, false] rfl rfl (by kernel_rfl) (fun _ _ _ h => h) (Or.inl ⟨by rfl, ?_⟩) ?_ ?_
                rotate_left
                ·intro w'
                 go_simp
                 with_reducible rfl
                rotate_left
                ·simp only [Act.put, List.setIfInBounds_toArray, List.set_cons_zero, List.set_cons_succ, i64_w, i32_w]
                 rfl
                refine pure_ (i := 2) (N := some 86) (v := ?_) (a' := ?_) #[true, false, true, false, false, false] rfl rfl (by kernel_rfl) (fun _ _ _ h => h) (Or.inl ⟨by rfl, ?_⟩) ?_ ?_
                rotate_left
                ·intro w'
                 go_simp
                 with_reducible rfl
                rotate_left
                ·simp only [Act.put, List.setIfInBounds_toArray, List.set_cons_zero, List.set_cons_succ, i64_w, i32_w]
                 rfl
                refine take_ (i := 1) (N := some 85) (v := ?_) (a' := ?_) #[true, true, true, false, false, false] rfl rfl (by kernel_rfl) (fun _ _ _ h => h) (Or.inl ⟨by rfl, ?_⟩) hHeld ?_ ?_
                rotate_left
                ·rintro w' ⟨s0, s1, s2, s3⟩
                 go_simp
                 with_reducible rfl
                rotate_left
                ·simp only [Act.put, List.setIfInBounds_toArray, List.set_cons_zero, List.set_cons_succ, i64_w, i32_w]
                 rfl
                refine one_ (i := 3) (N := some 87) #[true, true, true, true, false, false] rfl rfl (by kernel_rfl) (by decide) (fun K hK => ?_)
                refine goes_ Try.func73 (by kernel_rfl) rfl #[.pointer (some ⟨g, 0, none⟩), .int .i64 8] (by rfl) rfl rfl (by (try simp only [List.map_toArray, List.map_cons, List.map_nil]); first | done | rfl | (simp only [List.length_drop, List.length_take]; rfl)) ?_
                with_reducible refine (spec_l30Rd_pick.calls kj40 g s0_0 t289 8 t314 t315 w0 _ ?side1 ?side2 A120.out).mono ?_
                (case side1 => repeat (first | (with_reducible first | exact HI0.out | apply IsS103.alloc | apply IsS103.drewN | apply IsS103.drew | apply IsS103.set_1 | refine IsS103.far ?_ NB0_260.out _ | refine IsS103.far ?_ NB0_269.out _) | exact HI0.out))
                (case side2 => repeat (first | (with_reducible first | exact HB.out | apply yA | apply yN | apply yD | refine yS ?_ (IsS103.ge HI0.out) | refine yS ?_ GE260.out | refine yS ?_ GE269.out) | exact HB.out))
                rintro e w126 ⟨rfl, hi, hb, hk⟩
                refine ⟨_, rfl, ?_⟩
                have n0_ := qM (Kd.R_mono (Kd.R_keep (IsS103.apart (show IsS103 w0 _ g s0_0 t289 from by repeat (first | (with_reducible first | exact HI0.out | apply IsS103.alloc | apply IsS103.drewN | apply IsS103.drew | apply IsS103.set_1 | refine IsS103.far ?_ NB0_260.out _ | refine IsS103.far ?_ NB0_269.out _) | exact HI0.out)) (qz HO_270001) (by decide)) hk (fun _ h => h.2)) (fun _ h => h.1))
                have n1_ := qM (Kd.R_mono (Kd.R_keep (IsS103.apart (show IsS103 w0 _ g s0_0 t289 from by repeat (first | (with_reducible first | exact HI0.out | apply IsS103.alloc | apply IsS103.drewN | apply IsS103.drew | apply IsS103.set_1 | refine IsS103.far ?_ NB0_260.out _ | refine IsS103.far ?_ NB0_269.out _) | exact HI0.out)) (qz HO_270002) (by decide)) hk (fun _ h => h.2)) (fun _ h => h.1))
                have n2_ := qM (KeepBut.blk hk (g' := gb260) (o := .cells #[.int .i64 0, .slice none 0 0, .slice none 0 0, .int .i64 0] 30 (0, 0)) (bz BK260) NB260_0.out (by simp))
                have n3_ := qM (KeepBut.blk hk (g' := gb269) (o := .cells #[.int .i64 t270, u270001, u270002, .int .i64 x270003_40] 30 (0, 0)) (bz BK269) NB269_0.out (by simp))
                have n4_ := qM (KeepBut.trans (by repeat (first | (with_reducible first | exact HK.out | apply KeepBut.set_ | apply keep_drewN | apply keep_drew | apply keep_alloc | refine keep_far ?_ GW260.out _ | refine keep_far ?_ GW269.out _) | exact HK.out)) hk (.inl rfl))
                have n5_ := qM (hb)
                have n6_ := qM (hi)
                clear HO_270001 HO_270002 BK260 BK269 HK HB HI0
                revert n0_ n1_ n2_ n3_ n4_ n5_ n6_
                intro HO_270001 HO_270002 BK260 BK269 HK HB HI0
                (try clear hb)
                (try clear hb2)
                (try clear hk)
                (try clear hi)
                have p123 : 0 ≤ (t314 : Int) := of_decide_eq_true (by first | (with_reducible assumption) | assumption)
                have q123 : (t314 : Int) < ((x270002_2.length : Int) : Int) := of_decide_eq_true (by first | (with_reducible assumption) | assumption)
                obtain ⟨go123, co123, eo123, gb123, gl123, cl123, HG123⟩ := Kd.R_form HO_270002.out (by omega)
                (first | cases eo123 | (injection eo123 with ea_ en_ ec_; (first | subst ea_ | (injection ea_ with ea_; subst ea_)); subst ec_; clear en_))
                have GB123 := qM gb123
                have GG123 := qM HG123
                clear gb123 gl123 HG123
                obtain ⟨hx123_0, hf123_0⟩ := Kd.R_celln 0 HO_270002.out (t314 : Int) p123 q123
                replace p123 := eq_true p123
                replace q123 := eq_true q123
                have HN0_go123 := qM (show g ≠ go123 from by have h_ := IsS103.own_ne HI0.out HO_270002.out (by decide); intro e_; exact h_ (by rw [e_]; rfl))
                have HP127 := Kd.R_putn HO_270002.out (t314 : Int) 256
                rw [← Ny316.out] at HP127
                have HQ127 := qM HP127
                clear HP127
                refine hK.out _ _ ⟨(zC BK269.out 0).trans rfl, (zC BK269.out 1).trans rfl, (zC BK269.out 2).trans rfl, (zC BK269.out 3).trans rfl⟩ (fun hHeld => ?_)
                clear hK K
                refine norm_ (a' := ?_) ?_ ?_
                rotate_left
                ·show Act.put _ (some 87) _ = _
                 simp only [Act.put, List.setIfInBounds_toArray, List.set_cons_zero, List.set_cons_succ, i64_w, i32_w]
                 rfl
                refine pure_ (i := 4) (N := some 88) (v := ?_) (a' := ?_) #[true, true, true, true, true, false] rfl rfl (by kernel_rfl) (fun _ _ _ h => h) (Or.inl ⟨by rfl, ?_⟩) ?_ ?_
                rotate_left
                ·intro w'
                 go_simp
                 with_reducible rfl
                rotate_left
                ·simp only [Act.put, List.setIfInBounds_toArray, List.set_cons_zero, List.set_cons_succ, i64_w, i32_w]
                 rfl
                refine last_ (i := 5) (N := none) #[true, true, true, true, true, true] rfl rfl (by kernel_rfl) (by decide) (fun K hK => ?_)
                refine skip_ (w1 := ?_) (by rfl) rfl ?_ ?_
                rotate_left
                ·go_simp
                 rfl
                refine hK.out _ _ ?_
                clear hK K
                refine done_ (by kernel_rfl) ?_
                have n0_ : Aside0 (Kd.R (Kd.int .i64) 3 (w126.setCell ⟨go123, (t314 : Int).toNat, none⟩ (.int .i64 256)) w.heap.size (fun k_ => some k_ ≠ (.slice (some ⟨go123, 0, none⟩) x270002_2.length co123 : Value).ownBlock) u270001 x270001_2) := ⟨by (with_reducible repeat (first | apply qA | apply qN | apply qD)); exact Kd.R_mono (qF (p := ⟨go123, (t314 : Int).toNat, none⟩) (Kd.R_mono HO_270001.out (fun k_ hk => (⟨hk, fun e_ => hk (by rw [e_]; rfl)⟩ : _ ∧ k_ ≠ go123))) (fun _ hk => hk.2) (.int .i64 256)) (fun _ hk => hk.1)⟩
                have n1_ : Aside0 (Kd.R (Kd.int .i64) 3 (w126.setCell ⟨go123, (t314 : Int).toNat, none⟩ (.int .i64 256)) w.heap.size (fun k_ => some k_ ≠ (u270001 : Value).ownBlock) (.slice (some ⟨go123, 0, none⟩) x270002_2.length co123) y316) := ⟨by (with_reducible repeat (first | apply qA | apply qN | apply qD)); exact HQ127.out⟩
                have n2_ : Aside0 ((w126.setCell ⟨go123, (t314 : Int).toNat, none⟩ (.int .i64 256)).heap[gb260]? = some (.cells #[.int .i64 0, .slice none 0 0, .slice none 0 0, .int .i64 0] 30 (0, 0))) := ⟨by (with_reducible repeat (first | refine zN ?_ _ | refine zD ?_ | refine zA ?_ _)); refine blk_far ?_ (by have h_ := Kd.R_ne HO_270002.out BK260.out (by decide); intro e_; exact h_ (by rw [e_]; rfl)) _; (with_reducible repeat (first | refine zN ?_ _ | refine zD ?_ | refine zA ?_ _)); exact BK260.out⟩
                have n3_ : Aside0 ((w126.setCell ⟨go123, (t314 : Int).toNat, none⟩ (.int .i64 256)).heap[gb269]? = some (.cells #[.int .i64 t270, u270001, .slice (some ⟨go123, 0, none⟩) x270002_2.length co123, .int .i64 x270003_40] 30 (0, 0))) := ⟨by (with_reducible repeat (first | refine zN ?_ _ | refine zD ?_ | refine zA ?_ _)); refine blk_far ?_ (by have h_ := Kd.R_ne HO_270002.out BK269.out (by decide); intro e_; exact h_ (by rw [e_]; rfl)) _; (with_reducible repeat (first | refine zN ?_ _ | refine zD ?_ | refine zA ?_ _)); exact BK269.out⟩
                have n4_ : Aside0 (IsS103 w0 (w126.setCell ⟨go123, (t314 : Int).toNat, none⟩ (.int .i64 256)) g s0_0 t315) := ⟨by repeat (first | (with_reducible first | exact HI0.out | apply IsS103.alloc | apply IsS103.drewN | apply IsS103.drew | apply IsS103.set_1 | refine IsS103.far ?_ HN0_go123.out _ | refine IsS103.far ?_ NB0_260.out _ | refine IsS103.far ?_ NB0_269.out _) | exact HI0.out)⟩
                have n5_ : Aside0 (KeepBut w (w126.setCell ⟨go123, (t314 : Int).toNat, none⟩ (.int .i64 256)) g none) := ⟨by repeat (first | (with_reducible first | exact HK.out | apply KeepBut.set_ | apply keep_drewN | apply keep_drew | apply keep_alloc | refine keep_far ?_ GB123.out _ | refine keep_far ?_ GW260.out _ | refine keep_far ?_ GW269.out _) | exact HK.out)⟩
                have n6_ : Aside0 (Below w0.heap.size w0 (w126.setCell ⟨go123, (t314 : Int).toNat, none⟩ (.int .i64 256))) := ⟨by repeat (first | (with_reducible first | exact HB.out | apply yA | apply yN | apply yD | refine yS ?_ (Nat.le_trans HL.out GB123.out) | refine yS ?_ (IsS103.ge HI0.out) | refine yS ?_ GE260.out | refine yS ?_ GE269.out) | exact HB.out)⟩
                (try clear HO_270001)
                (try clear HO_270002)
                (try clear BK260)
                (try clear BK269)
                (try clear HI0)
                (try clear HK)
                (try clear HB)
                generalize (w126.setCell ⟨go123, (t314 : Int).toNat, none⟩ (.int .i64 256)) = w128 at n0_ n1_ n2_ n3_ n4_ n5_ n6_ ⊢
                revert n0_ n1_ n2_ n3_ n4_ n5_ n6_
                intro HO_270001 HO_270002 BK260 BK269 HI0 HK HB
                have hnb129 := NB269_260.out
                have hnc129 := NB260_269.out
                have hnb130 := NB269_0.out
                have hnc130 := NB0_269.out
                have hcz131_0 : w128.cell? ⟨gb269, 0, none⟩ = some (.int .i64 t270) := (zC BK269.out 0).trans rfl
                have hcz131_1 : w128.cell? ⟨gb269, 1, none⟩ = some (u270001) := (zC BK269.out 1).trans rfl
                have hcz131_2 : w128.cell? ⟨gb269, 2, none⟩ = some (.slice (some ⟨go123, 0, none⟩) x270002_2.length co123) := (zC BK269.out 2).trans rfl
                have hcz131_3 : w128.cell? ⟨gb269, 3, none⟩ = some (.int .i64 x270003_40) := (zC BK269.out 3).trans rfl
                have hfz131_0 := zF BK269.out 0
                have hfz131_1 := zF BK269.out 1
                have hfz131_2 := zF BK269.out 2
                have hfz131_3 := zF BK269.out 3
                have hnb132 := NB260_0.out
                have hnc132 := NB0_260.out
                have hcz133_0 : w128.cell? ⟨gb260, 0, none⟩ = some (.int .i64 0) := (zC BK260.out 0).trans rfl
                have hcz133_1 : w128.cell? ⟨gb260, 1, none⟩ = some (.slice none 0 0) := (zC BK260.out 1).trans rfl
                have hcz133_2 : w128.cell? ⟨gb260, 2, none⟩ = some (.slice none 0 0) := (zC BK260.out 2).trans rfl
                have hcz133_3 : w128.cell? ⟨gb260, 3, none⟩ = some (.int .i64 0) := (zC BK260.out 3).trans rfl
                have hfz133_0 := zF BK260.out 0
                have hfz133_1 := zF BK260.out 1
                have hfz133_2 := zF BK260.out 2
                have hfz133_3 := zF BK260.out 3
                obtain ⟨Ao134, co134, eo134⟩ := Kd.R_slice HO_270001.out
                subst eo134
                try go_wp2
                refine bodyPost_ret (results_cell_row rfl _ _ gb260 30 #[.int .i64 t270, .slice Ao134 x270001_2.length co134, .slice (some ⟨go123, 0, none⟩) x270002_2.length co123, .int .i64 x270003_40] (0, 0) _ rfl (by (with_reducible repeat (first | refine zN ?_ _ | refine zD ?_ | refine zA ?_ _)); refine blk_put (cs := #[.int .i64 t270, .slice Ao134 x270001_2.length co134, .slice (some ⟨go123, 0, none⟩) x270002_2.length co123, .int .i64 0]) ?_ 3 _ rfl; (with_reducible repeat (first | refine zN ?_ _ | refine zD ?_ | refine zA ?_ _)); refine blk_put (cs := #[.int .i64 t270, .slice Ao134 x270001_2.length co134, .slice none 0 0, .int .i64 0]) ?_ 2 _ rfl; (with_reducible repeat (first | refine zN ?_ _ | refine zD ?_ | refine zA ?_ _)); refine blk_put (cs := #[.int .i64 t270, .slice none 0 0, .slice none 0 0, .int .i64 0]) ?_ 1 _ rfl; (with_reducible repeat (first | refine zN ?_ _ | refine zD ?_ | refine zA ?_ _)); refine blk_put (cs := #[.int .i64 0, .slice none 0 0, .slice none 0 0, .int .i64 0]) ?_ 0 _ rfl; (with_reducible repeat (first | refine zN ?_ _ | refine zD ?_ | refine zA ?_ _)); exact BK260.out) Try.underlying30 rfl (by kernel_rfl)) rfl ?_
                exact ⟨_, _, by first | rfl | (simp [errW_none, errW_some] <;> rfl) | (simp [*, errW_none, errW_some] <;> rfl), by (with_reducible repeat (first | apply qA | apply qN | apply qD)); exact Kd.R_mono (qF (p := ⟨gb260, 3, none⟩) (qF (p := ⟨gb260, 2, none⟩) (qF (p := ⟨gb260, 1, none⟩) (qF (p := ⟨gb260, 0, none⟩) (Kd.R_types HO_270001.out BK260.out (by decide)) (fun _ hk => hk.2) (.int .i64 t270)) (fun _ hk => hk.2) (.slice Ao134 x270001_2.length co134)) (fun _ hk => hk.2) (.slice (some ⟨go123, 0, none⟩) x270002_2.length co123)) (fun _ hk => hk.2) (.int .i64 x270003_40)) (fun _ hk => hk.1), by (with_reducible repeat (first | apply qA | apply qN | apply qD)); exact Kd.R_mono (qF (p := ⟨gb260, 3, none⟩) (qF (p := ⟨gb260, 2, none⟩) (qF (p := ⟨gb260, 1, none⟩) (qF (p := ⟨gb260, 0, none⟩) (Kd.R_types HO_270002.out BK260.out (by decide)) (fun _ hk => hk.2) (.int .i64 t270)) (fun _ hk => hk.2) (.slice Ao134 x270001_2.length co134)) (fun _ hk => hk.2) (.slice (some ⟨go123, 0, none⟩) x270002_2.length co123)) (fun _ hk => hk.2) (.int .i64 x270003_40)) (fun _ hk => hk.1), by repeat (first | (with_reducible first | exact HI0.out | apply IsS103.alloc | apply IsS103.drewN | apply IsS103.drew | apply IsS103.set_1 | refine IsS103.far ?_ NB0_260.out _ | refine IsS103.far ?_ NB0_269.out _) | exact HI0.out), by repeat (first | (with_reducible first | exact HB.out | apply yA | apply yN | apply yD | refine yS ?_ (IsS103.ge HI0.out) | refine yS ?_ GE260.out | refine yS ?_ GE269.out) | exact HB.out), by repeat (first | (with_reducible first | exact HK.out | apply KeepBut.set_ | apply keep_drewN | apply keep_drew | apply keep_alloc | refine keep_far ?_ GW260.out _ | refine keep_far ?_ GW269.out _) | exact HK.out)⟩
               ·rw [if_neg c122] at H
                exact absurd H (by simp)
              ·rw [if_neg c121] at H
               exact absurd H (by simp)
             ·rw [if_neg c119] at H
              have c119b0 : (t288 == 4) = false := beq_eq_false_iff_ne.mpr c119
              have c119b1 : (t288 != 4) = true := bne_iff_ne.mpr c119
              simp only [Option.some.injEq, Prod.mk.injEq] at H
              obtain ⟨rfl, rfl, rfl, rfl, rfl⟩ := H
              go_wp2_with (first | ((with_reducible refine gate_callee (f := 73) rfl ?_); refine goesL_ (some 46) rfl rfl Try.func73 (by kernel_rfl) rfl #[.pointer (some ⟨g, 0, none⟩), .int .i64 24] rfl (by (try simp only [List.map_toArray, List.map_cons, List.map_nil]); first | done | rfl | (simp only [List.length_drop, List.length_take]; rfl)) ?_; (with_reducible refine (spec_l30Rd_pick.calls kj40 g s0_0 x1001_40 24 t288 t289 w0 _ ?side1 ?side2 A49.out).mono ?_); (case side1 => repeat (first | (with_reducible first | exact HI0.out | apply IsS103.alloc | apply IsS103.drewN | apply IsS103.drew | apply IsS103.set_1 | refine IsS103.far ?_ NB0_260.out _ | refine IsS103.far ?_ NB0_269.out _) | exact HI0.out)); (case side2 => repeat (first | (with_reducible first | exact HB.out | apply yA | apply yN | apply yD | refine yS ?_ (IsS103.ge HI0.out) | refine yS ?_ GE260.out | refine yS ?_ GE269.out) | exact HB.out)); rintro e w135 ⟨rfl, hi, hb, hk⟩; refine ⟨_, rfl, ?_⟩; have n0_ := qM (Kd.R_mono (Kd.R_keep (IsS103.apart (show IsS103 w0 _ g s0_0 x1001_40 from by repeat (first | (with_reducible first | exact HI0.out | apply IsS103.alloc | apply IsS103.drewN | apply IsS103.drew | apply IsS103.set_1 | refine IsS103.far ?_ NB0_260.out _ | refine IsS103.far ?_ NB0_269.out _) | exact HI0.out)) (qz HO_270001) (by decide)) hk (fun _ h => h.2)) (fun _ h => h.1)); have n1_ := qM (Kd.R_mono (Kd.R_keep (IsS103.apart (show IsS103 w0 _ g s0_0 x1001_40 from by repeat (first | (with_reducible first | exact HI0.out | apply IsS103.alloc | apply IsS103.drewN | apply IsS103.drew | apply IsS103.set_1 | refine IsS103.far ?_ NB0_260.out _ | refine IsS103.far ?_ NB0_269.out _) | exact HI0.out)) (qz HO_270002) (by decide)) hk (fun _ h => h.2)) (fun _ h => h.1)); have n2_ := qM (KeepBut.blk hk (g' := gb260) (o := .cells #[.int .i64 0, .slice none 0 0, .slice none 0 0, .int .i64 0] 30 (0, 0)) (bz BK260) NB260_0.out (by simp)); have n3_ := qM (KeepBut.blk hk (g' := gb269) (o := .cells #[.int .i64 t270, u270001, u270002, .int .i64 x270003_40] 30 (0, 0)) (bz BK269) NB269_0.out (by simp)); have n4_ := qM (KeepBut.trans (by repeat (first | (with_reducible first | exact HK.out | apply KeepBut.set_ | apply keep_drewN | apply keep_drew | apply keep_alloc | refine keep_far ?_ GW260.out _ | refine keep_far ?_ GW269.out _) | exact HK.out)) hk (.inl rfl)); have n5_ := qM (hb); have n6_ := qM (hi); clear HO_270001 HO_270002 BK260 BK269 HK HB HI0; revert n0_ n1_ n2_ n3_ n4_ n5_ n6_; intro HO_270001 HO_270002 BK260 BK269 HK HB HI0; (try clear hb); (try clear hb2); (try clear hk); (try clear hi); have hnb136 := NB269_260.out; have hnc136 := NB260_269.out; have hnb137 := NB269_0.out; have hnc137 := NB0_269.out; have hcz138_0 : w135.cell? ⟨gb269, 0, none⟩ = some (.int .i64 t270) := (zC BK269.out 0).trans rfl; have hcz138_1 : w135.cell? ⟨gb269, 1, none⟩ = some (u270001) := (zC BK269.out 1).trans rfl; have hcz138_2 : w135.cell? ⟨gb269, 2, none⟩ = some (u270002) := (zC BK269.out 2).trans rfl; have hcz138_3 : w135.cell? ⟨gb269, 3, none⟩ = some (.int .i64 x270003_40) := (zC BK269.out 3).trans rfl; have hfz138_0 := zF BK269.out 0; have hfz138_1 := zF BK269.out 1; have hfz138_2 := zF BK269.out 2; have hfz138_3 := zF BK269.out 3; have hnb139 := NB260_0.out; have hnc139 := NB0_260.out; have hcz140_0 : w135.cell? ⟨gb260, 0, none⟩ = some (.int .i64 0) := (zC BK260.out 0).trans rfl; have hcz140_1 : w135.cell? ⟨gb260, 1, none⟩ = some (.slice none 0 0) := (zC BK260.out 1).trans rfl; have hcz140_2 : w135.cell? ⟨gb260, 2, none⟩ = some (.slice none 0 0) := (zC BK260.out 2).trans rfl; have hcz140_3 : w135.cell? ⟨gb260, 3, none⟩ = some (.int .i64 0) := (zC BK260.out 3).trans rfl; have hfz140_0 := zF BK260.out 0; have hfz140_1 := zF BK260.out 1; have hfz140_2 := zF BK260.out 2; have hfz140_3 := zF BK260.out 3; obtain ⟨Ao141, co141, eo141⟩ := Kd.R_slice HO_270001.out; subst eo141; obtain ⟨Ao142, co142, eo142⟩ := Kd.R_slice HO_270002.out; subst eo142))
              refine bodyPost_ret (results_cell_row rfl _ _ gb260 30 #[.int .i64 t270, .slice Ao141 x270001_2.length co141, .slice Ao142 x270002_2.length co142, .int .i64 x270003_40] (0, 0) _ rfl (by (with_reducible repeat (first | refine zN ?_ _ | refine zD ?_ | refine zA ?_ _)); refine blk_put (cs := #[.int .i64 t270, .slice Ao141 x270001_2.length co141, .slice Ao142 x270002_2.length co142, .int .i64 0]) ?_ 3 _ rfl; (with_reducible repeat (first | refine zN ?_ _ | refine zD ?_ | refine zA ?_ _)); refine blk_put (cs := #[.int .i64 t270, .slice Ao141 x270001_2.length co141, .slice none 0 0, .int .i64 0]) ?_ 2 _ rfl; (with_reducible repeat (first | refine zN ?_ _ | refine zD ?_ | refine zA ?_ _)); refine blk_put (cs := #[.int .i64 t270, .slice none 0 0, .slice none 0 0, .int .i64 0]) ?_ 1 _ rfl; (with_reducible repeat (first | refine zN ?_ _ | refine zD ?_ | refine zA ?_ _)); refine blk_put (cs := #[.int .i64 0, .slice none 0 0, .slice none 0 0, .int .i64 0]) ?_ 0 _ rfl; (with_reducible repeat (first | refine zN ?_ _ | refine zD ?_ | refine zA ?_ _)); exact BK260.out) Try.underlying30 rfl (by kernel_rfl)) rfl ?_
              exact ⟨_, _, by first | rfl | (simp [errW_none, errW_some] <;> rfl) | (simp [*, errW_none, errW_some] <;> rfl), by (with_reducible repeat (first | apply qA | apply qN | apply qD)); exact Kd.R_mono (qF (p := ⟨gb260, 3, none⟩) (qF (p := ⟨gb260, 2, none⟩) (qF (p := ⟨gb260, 1, none⟩) (qF (p := ⟨gb260, 0, none⟩) (Kd.R_types HO_270001.out BK260.out (by decide)) (fun _ hk => hk.2) (.int .i64 t270)) (fun _ hk => hk.2) (.slice Ao141 x270001_2.length co141)) (fun _ hk => hk.2) (.slice Ao142 x270002_2.length co142)) (fun _ hk => hk.2) (.int .i64 x270003_40)) (fun _ hk => hk.1), by (with_reducible repeat (first | apply qA | apply qN | apply qD)); exact Kd.R_mono (qF (p := ⟨gb260, 3, none⟩) (qF (p := ⟨gb260, 2, none⟩) (qF (p := ⟨gb260, 1, none⟩) (qF (p := ⟨gb260, 0, none⟩) (Kd.R_types HO_270002.out BK260.out (by decide)) (fun _ hk => hk.2) (.int .i64 t270)) (fun _ hk => hk.2) (.slice Ao141 x270001_2.length co141)) (fun _ hk => hk.2) (.slice Ao142 x270002_2.length co142)) (fun _ hk => hk.2) (.int .i64 x270003_40)) (fun _ hk => hk.1), by repeat (first | (with_reducible first | exact HI0.out | apply IsS103.alloc | apply IsS103.drewN | apply IsS103.drew | apply IsS103.set_1 | refine IsS103.far ?_ NB0_260.out _ | refine IsS103.far ?_ NB0_269.out _) | exact HI0.out), by repeat (first | (with_reducible first | exact HB.out | apply yA | apply yN | apply yD | refine yS ?_ (IsS103.ge HI0.out) | refine yS ?_ GE260.out | refine yS ?_ GE269.out) | exact HB.out), by repeat (first | (with_reducible first | exact HK.out | apply KeepBut.set_ | apply keep_drewN | apply keep_drew | apply keep_alloc | refine keep_far ?_ GW260.out _ | refine keep_far ?_ GW269.out _) | exact HK.out)⟩

end Go.Proofs.Ytcnipdbommmkmaa.PVg
