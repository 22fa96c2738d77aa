/- Functions that a law reaches, each with the walk that shows what its call answers; laid by a program of this session. -/
import Derived.Test.YtekeehhbalhfiaaPFnBoxFullx0
import Derived.Test.YtekeehhbalhfiaaPFnBoxFullx1
import Derived.Test.YtekeehhbalhfiaaPFnBoxFullx2
namespace Go.Proofs.Ytekeehhbalhfiaa.PFnBoxFull
open Go.RowKit Go.Proofs.YtekeehhbalhfiaaW.PrintWords Go.Proofs.YtekeehhbalhfiaaW.PrintLast Go.Proofs.YtekeehhbalhfiaaW.PrintMore
attribute [local go_sem] max2_int min2_int max_two min_two max_three min_three max_four min_four   -- for this text's walks alone
set_option linter.unusedVariables false
set_option linter.unusedSimpArgs false

open Go.Proofs.YtekeehhbalhfiaaAl
/-! ### spec_l31Box: function 40 -/
mutual
def spec_l31Box.l0 : Nat → Int → List Int → Int → Int → List (List Int) → Option (Int × (List (List Int)) × Int)
 | 0, _, _, _, _, _ => none
 | k + 1, x4, x1000, x1001, x135000, x135001 => if x4 > 0 then (spec_l31Box.j1 k x4 (decide ((x135001.length : Int) < x135000)) x1000 x1001 x135000 x135001) else (spec_l31Box.j1 k x4 false x1000 x1001 x135000 x135001)
def spec_l31Box.j1 : Nat → Int → Bool → List Int → Int → Int → List (List Int) → Option (Int × (List (List Int)) × Int)
 | 0, _, _, _, _, _, _ => none
 | k + 1, x4, x20, x1000, x1001, x135000, x135001 => if x20 = true then ((spec_l30Rd_pick.f k x1000 x1001 5).bind fun bt137 => ((spec_l30Bytes.f k x1000 bt137.2 bt137.1).bind fun bt139 => (if x135001.length < 5864062014805 then (spec_l31Box.l0 k (wrap64 (x4 - 1)) x1000 bt139.2 x135000 (x135001 ++ [bt139.1])) else (none)))) else ((spec_l30Rd_pick.f k x1000 x1001 16).bind fun bt146 => (if bt146.1 = 0 then ((some (([0, 5, (-1)] : List Int) : List Int)).bind fun y148 => ((spec_l30Rd_pick.f k x1000 bt146.2 3).bind fun bt151 => (if 0 ≤ bt151.1 then (if bt151.1 < (y148.length : Int) then (some (rd y148 bt151.1, x135001, bt151.2)) else (none)) else (none)))) else (if bt146.1 = 1 then ((spec_l30Bytes.f k x1000 bt146.2 9).bind fun bt154 => (if x135001.length < 5864062014805 then (some (x135000, (x135001 ++ [bt154.1]), bt154.2)) else (none))) else (if bt146.1 = 2 then (spec_l31Box.l1 k x1000 bt146.2 x135000 x135001) else (some (x135000, x135001, bt146.2))))))
def spec_l31Box.l1 : Nat → List Int → Int → Int → List (List Int) → Option (Int × (List (List Int)) × Int)
 | 0, _, _, _, _ => none
 | k + 1, x1000, x1001, x135000, x135001 => if (x135001.length : Int) ≤ x135000 then (if x135001.length < 5864062014805 then (spec_l31Box.l1 k x1000 x1001 x135000 (x135001 ++ [(([] : List Int))])) else (none)) else (some (x135000, x135001, x1001))
end
def spec_l31Box.f (k : Nat) (s0_0 : List Int) (s0_1 : Int) : Option (Int × (List (List Int)) × Int) := (spec_l30Rd_pick.f k s0_0 s0_1 4).bind fun bt128 => ((spec_BoxNew.f (wrap64 (1 + bt128.1))).bind fun bt130 => ((spec_l30Rd_pick.f k s0_0 bt128.2 5).bind fun bt135 => (spec_l31Box.l0 k bt135.1 s0_0 bt135.2 bt130.1 bt130.2)))
theorem spec_l31Box.mono_l : ∀ k, (∀ y0 y1 y2 y3 y4, LeO (spec_l31Box.l0 k y0 y1 y2 y3 y4) (spec_l31Box.l0 (k + 1) y0 y1 y2 y3 y4)) ∧ (∀ y0 y1 y2 y3 y4 y5, LeO (spec_l31Box.j1 k y0 y1 y2 y3 y4 y5) (spec_l31Box.j1 (k + 1) y0 y1 y2 y3 y4 y5)) ∧ (∀ y0 y1 y2 y3, LeO (spec_l31Box.l1 k y0 y1 y2 y3) (spec_l31Box.l1 (k + 1) y0 y1 y2 y3))
 | 0 => ⟨fun _ _ _ _ _ r h => by simp [spec_l31Box.l0] at h, fun _ _ _ _ _ _ r h => by simp [spec_l31Box.j1] at h, fun _ _ _ _ r h => by simp [spec_l31Box.l1] at h⟩
 | k + 1 => by
  obtain ⟨ih0, ih1, ih2⟩ := spec_l31Box.mono_l k
  refine ⟨?_, ?_, ?_⟩
  ·intro y0 y1 y2 y3 y4
   unfold spec_l31Box.l0
   repeat' first
   | (with_reducible exact ih0 _ _ _ _ _)
   | (with_reducible exact ih1 _ _ _ _ _ _)
   | (with_reducible exact ih2 _ _ _ _)
   | (with_reducible exact spec_l30Bytes.mono _ _ _ _)
   | (with_reducible exact spec_l30Rd_pick.mono _ _ _ _)
   | (with_reducible exact LeO.refl _)
   | (with_reducible exact LeO.none _)
   | (with_reducible refine LeO.ite ?_ ?_)
   | (with_reducible refine LeO.bind ?_ (fun _ => ?_))
   | exact ih0 _ _ _ _ _
   | exact ih1 _ _ _ _ _ _
   | exact ih2 _ _ _ _
   | exact spec_l30Bytes.mono _ _ _ _
   | exact spec_l30Rd_pick.mono _ _ _ _
   | exact LeO.none _
   | refine LeO.ite ?_ ?_
   | refine LeO.bind ?_ (fun _ => ?_)
  ·intro y0 y1 y2 y3 y4 y5
   unfold spec_l31Box.j1
   repeat' first
   | (with_reducible exact ih0 _ _ _ _ _)
   | (with_reducible exact ih1 _ _ _ _ _ _)
   | (with_reducible exact ih2 _ _ _ _)
   | (with_reducible exact spec_l30Bytes.mono _ _ _ _)
   | (with_reducible exact spec_l30Rd_pick.mono _ _ _ _)
   | (with_reducible exact LeO.refl _)
   | (with_reducible exact LeO.none _)
   | (with_reducible refine LeO.ite ?_ ?_)
   | (with_reducible refine LeO.bind ?_ (fun _ => ?_))
   | exact ih0 _ _ _ _ _
   | exact ih1 _ _ _ _ _ _
   | exact ih2 _ _ _ _
   | exact spec_l30Bytes.mono _ _ _ _
   | exact spec_l30Rd_pick.mono _ _ _ _
   | exact LeO.none _
   | refine LeO.ite ?_ ?_
   | refine LeO.bind ?_ (fun _ => ?_)
  ·intro y0 y1 y2 y3
   unfold spec_l31Box.l1
   repeat' first
   | (with_reducible exact ih0 _ _ _ _ _)
   | (with_reducible exact ih1 _ _ _ _ _ _)
   | (with_reducible exact ih2 _ _ _ _)
   | (with_reducible exact spec_l30Bytes.mono _ _ _ _)
   | (with_reducible exact spec_l30Rd_pick.mono _ _ _ _)
   | (with_reducible exact LeO.refl _)
   | (with_reducible exact LeO.none _)
   | (with_reducible refine LeO.ite ?_ ?_)
   | (with_reducible refine LeO.bind ?_ (fun _ => ?_))
   | exact ih0 _ _ _ _ _
   | exact ih1 _ _ _ _ _ _
   | exact ih2 _ _ _ _
   | exact spec_l30Bytes.mono _ _ _ _
   | exact spec_l30Rd_pick.mono _ _ _ _
   | exact LeO.none _
   | refine LeO.ite ?_ ?_
   | refine LeO.bind ?_ (fun _ => ?_)
theorem spec_l31Box.mono : ∀ a0 a1 k, LeO (spec_l31Box.f k a0 a1) (spec_l31Box.f (k + 1) a0 a1) := by
 intro a0 a1 k
 obtain ⟨ih0, ih1, ih2⟩ := spec_l31Box.mono_l k
 unfold spec_l31Box.f
 repeat' first
   | (with_reducible exact ih0 _ _ _ _ _)
   | (with_reducible exact ih1 _ _ _ _ _ _)
   | (with_reducible exact ih2 _ _ _ _)
   | (with_reducible exact spec_l30Bytes.mono _ _ _ _)
   | (with_reducible exact spec_l30Rd_pick.mono _ _ _ _)
   | (with_reducible exact LeO.refl _)
   | (with_reducible exact LeO.none _)
   | (with_reducible refine LeO.ite ?_ ?_)
   | (with_reducible refine LeO.bind ?_ (fun _ => ?_))
   | exact ih0 _ _ _ _ _
   | exact ih1 _ _ _ _ _ _
   | exact ih2 _ _ _ _
   | exact spec_l30Bytes.mono _ _ _ _
   | exact spec_l30Rd_pick.mono _ _ _ _
   | exact LeO.none _
   | refine LeO.ite ?_ ?_
   | refine LeO.bind ?_ (fun _ => ?_)
def spec_l31Box.T5 : Bool × List (List Nat × List Nat) := (true, [([], []), ([0], [0]), ([], []), ([], []), ([3], [3]), ([2, 4, 4], [2, 4]), ([5], [5]), ([1, 6, 5], [1, 6]), ([0, 1, 2, 3, 4, 5, 6, 7], []), ([8, 7, 7, 0, 1, 2, 3, 4, 5, 6, 7], [7, 8])])
def spec_l31Box.B5 : List Nat := [0, 1, 0, 0, 8, 28, 60, 127, 255, 511]
theorem spec_l31Box.tab5 : rtab .any (opsOf Try.f40 5) = spec_l31Box.T5 := by kernel_rfl
theorem spec_l31Box.bits5 : waitsOk spec_l31Box.T5.2 spec_l31Box.B5 = true := by kernel_rfl
def spec_l31Box.T10 : Bool × List (List Nat × List Nat) := (true, [([], []), ([0], [0]), ([], []), ([2], [2]), ([3], [3]), ([1, 4, 3], [1, 4]), ([0, 1, 2, 3, 4, 5], []), ([6, 5, 5, 0, 1, 2, 3, 4, 5], [5, 6])])
def spec_l31Box.B10 : List Nat := [0, 1, 0, 4, 12, 31, 63, 127]
theorem spec_l31Box.tab10 : rtab .any (opsOf Try.f40 10) = spec_l31Box.T10 := by kernel_rfl
theorem spec_l31Box.bits10 : waitsOk spec_l31Box.T10.2 spec_l31Box.B10 = true := by kernel_rfl
set_option maxHeartbeats 8000000 in
set_option maxRecDepth 100000 in
theorem spec_l31Box.calls (k : Nat) (g : Nat) (s0_0 : List Int) (s0_1 : Int) (r1 : Int) (r2 : List (List Int)) (r3 : Int) (w0 w : World) (hI : IsS63 w0 w g s0_0 s0_1) (hB : Below w0.heap.size w0 w) (h : spec_l31Box.f k s0_0 s0_1 = some (r1, r2, r3)) :
  Calls Try.prog 40 #[.pointer (some ⟨g, 0, none⟩)] w fun e w' => ∃ v1_ : Value, e = .returned (.agg #[.int .i64 r1, v1_]) ∧ Kd.S (Kd.slice 5 (Kd.int .u8)) 22 w' w.heap.size (fun _ => True) v1_ r2 ∧ IsS63 w0 w' g s0_0 r3 ∧ Below w0.heap.size w0 w' ∧ KeepBut w w' g none := by
 have hu25 := Try.underlying25
 have HI0 := qM hI
 have HK := qM (KeepBut.refl w g none)
 have HL := qM hB.size
 clear hI
 have HW0 := qM hB.size
 have HB := qM hB
 clear hB
 have H : ((spec_l30Rd_pick.f k s0_0 s0_1 4).bind fun bt128 => ((spec_BoxNew.f (wrap64 (1 + bt128.1))).bind fun bt130 => ((spec_l30Rd_pick.f k s0_0 bt128.2 5).bind fun bt135 => (spec_l31Box.l0 k bt135.1 s0_0 bt135.2 bt130.1 bt130.2)))) = some (r1, r2, r3) := h
 clear h
 replace H := Option.bind_eq_some_iff.mp H
 obtain ⟨⟨t128, t129⟩, A20, H⟩ := H
 replace H : ((spec_BoxNew.f (wrap64 (1 + t128))).bind fun bt130 => ((spec_l30Rd_pick.f k s0_0 t129 5).bind fun bt135 => (spec_l31Box.l0 k bt135.1 s0_0 bt135.2 bt130.1 bt130.2))) = some (r1, r2, r3) := H
 have A2 := qM A20
 clear A20
 replace H := Option.bind_eq_some_iff.mp H
 obtain ⟨⟨t130, t131⟩, A30, H⟩ := H
 replace H : ((spec_l30Rd_pick.f k s0_0 t129 5).bind fun bt135 => (spec_l31Box.l0 k bt135.1 s0_0 bt135.2 t130 t131)) = some (r1, r2, r3) := H
 have A3 := qM A30
 clear A30
 replace H := Option.bind_eq_some_iff.mp H
 obtain ⟨⟨t135, t136⟩, A40, H⟩ := H
 replace H : (spec_l31Box.l0 k t135 s0_0 t136 t130 t131) = some (r1, r2, r3) := H
 have A4 := qM A40
 clear A40
 have H' := qM H
 clear H
 go_enter Try.func40, Try.ntmps40
 go_wp2_with (first | ((with_reducible refine gate_dst (N := 2) rfl ?_); (try (refine gate_guard (by rfl) ?_; dsimp only)); refine box_event ?hg (N := 2) ?hd (cs := #[.int .i64 0, .slice none 0 0]) (t := 25) ?hr ?_; (case hd => rfl); (case hg => rfl); (case hr => first | (go_simp; done) | (go_simp; rfl)); intro gb127 hg w5 hbox hb; have n0_ := qM (IsS63.below (by repeat (first | (with_reducible first | exact HI0.out | apply IsS63.alloc | apply IsS63.drewN | apply IsS63.drew | apply IsS63.set_1) | exact HI0.out)) hb); have n1_ := qM (KeepBut.trans (by repeat (first | (with_reducible first | exact HK.out | apply KeepBut.set_ | apply keep_drewN | apply keep_drew | apply keep_alloc) | exact HK.out)) (KeepBut.of_below hb g none) (.inl rfl)); have n2_ := qM (below_step (by repeat (first | (with_reducible first | exact HB.out | apply yA | apply yN | apply yD | refine yS ?_ (IsS63.ge HI0.out)) | exact HB.out)) hb); have n3_ := qM (hbox); have n4_ := qM ((by rw [hg]; exact (keep_size (w := w) (g := g) (row := none) (by repeat (first | (with_reducible first | exact HK.out | apply KeepBut.set_ | apply keep_drewN | apply keep_drew | apply keep_alloc) | exact HK.out))) : w.heap.size ≤ gb127)); have n5_ := qM ((Nat.le_trans HW0.out (by rw [hg]; exact (keep_size (w := w) (g := g) (row := none) (by repeat (first | (with_reducible first | exact HK.out | apply KeepBut.set_ | apply keep_drewN | apply keep_drew | apply keep_alloc) | exact HK.out))) : w.heap.size ≤ gb127) : w0.heap.size ≤ gb127)); have n6_ := qM ((by rw [hg]; exact Nat.ne_of_lt (IsS63.lt (show IsS63 w0 _ g s0_0 s0_1 from by repeat (first | (with_reducible first | exact HI0.out | apply IsS63.alloc | apply IsS63.drewN | apply IsS63.drew | apply IsS63.set_1) | exact HI0.out))) : g ≠ gb127)); have n7_ := qM ((by rw [hg]; exact Nat.ne_of_gt (IsS63.lt (show IsS63 w0 _ g s0_0 s0_1 from by repeat (first | (with_reducible first | exact HI0.out | apply IsS63.alloc | apply IsS63.drewN | apply IsS63.drew | apply IsS63.set_1) | exact HI0.out))) : gb127 ≠ g)); clear HI0; clear HK; clear HB; have HI0 := n0_; have HK := n1_; have HB := n2_; have BK127 := n3_; have GW127 := n4_; have GE127 := n5_; have NB0_127 := n6_; have NB127_0 := n7_; clear n0_ n1_ n2_ n3_ n4_ n5_ n6_ n7_; clear hb hbox hg) | ((with_reducible refine gate_callee (f := 50) rfl ?_); refine goesL_ (some 6) rfl rfl Try.func50 (by kernel_rfl) rfl #[.pointer (some ⟨g, 0, none⟩), .int .i64 4] rfl (by (try simp only [List.map_toArray, List.map_cons, List.map_nil]); first | done | rfl | (simp only [List.length_drop, List.length_take]; rfl)) ?_; (with_reducible refine (spec_l30Rd_pick.calls k g s0_0 s0_1 4 t128 t129 w0 _ ?side1 ?side2 A2.out).mono ?_); (case side1 => repeat (first | (with_reducible first | exact HI0.out | apply IsS63.alloc | apply IsS63.drewN | apply IsS63.drew | apply IsS63.set_1 | refine IsS63.far ?_ NB0_127.out _) | exact HI0.out)); (case side2 => repeat (first | (with_reducible first | exact HB.out | apply yA | apply yN | apply yD | refine yS ?_ (IsS63.ge HI0.out) | refine yS ?_ GE127.out) | exact HB.out)); rintro e w6 ⟨rfl, hi, hb, hk⟩; refine ⟨_, rfl, ?_⟩; have n0_ := qM (KeepBut.blk hk (g' := gb127) (o := .cells #[.int .i64 0, .slice none 0 0] 25 (0, 0)) (by (with_reducible repeat (first | refine zN ?_ _ | refine zD ?_ | refine zA ?_ _)); exact BK127.out) NB127_0.out (by simp)); have n1_ := qM (KeepBut.trans (by repeat (first | (with_reducible first | exact HK.out | apply KeepBut.set_ | apply keep_drewN | apply keep_drew | apply keep_alloc | refine keep_far ?_ GW127.out _) | exact HK.out)) hk (.inl rfl)); have n2_ := qM (hb); have n3_ := qM (hi); clear BK127; clear HK; clear HB; clear HI0; have BK127 := n0_; have HK := n1_; have HB := n2_; have HI0 := n3_; clear n0_ n1_ n2_ n3_; (try clear hb); (try clear hb2); (try clear hk); (try clear hi)) | ((with_reducible refine gate_callee (f := 10) rfl ?_); refine goesL_ (some 8) rfl rfl Try.func10 (by kernel_rfl) rfl #[.int .i64 (wrap64 (1 + t128))] rfl (by (try simp only [List.map_toArray, List.map_cons, List.map_nil]); first | done | rfl | (simp only [List.length_drop, List.length_take]; rfl)) ?_; (with_reducible refine (spec_BoxNew.calls (wrap64 (1 + t128)) t130 t131 _ A3.out).mono ?_); rintro e w7 ⟨v132, rfl, ho0, hb⟩; refine ⟨_, rfl, ?_⟩; have n0_ := qM (Kd.S_lower ho0 (keep_size (w := w) (g := g) (row := none) (by repeat (first | (with_reducible first | exact HK.out | apply KeepBut.set_ | apply keep_drewN | apply keep_drew | apply keep_alloc | refine keep_far ?_ GW127.out _) | exact HK.out)))); have n1_ := qM (IsS63.below (by repeat (first | (with_reducible first | exact HI0.out | apply IsS63.alloc | apply IsS63.drewN | apply IsS63.drew | apply IsS63.set_1 | refine IsS63.far ?_ NB0_127.out _) | exact HI0.out)) hb); have n2_ := qM (blk_below (g := gb127) (o := .cells #[.int .i64 0, .slice none 0 0] 25 (0, 0)) (by (with_reducible repeat (first | refine zN ?_ _ | refine zD ?_ | refine zA ?_ _)); exact BK127.out) hb); have n3_ := qM (KeepBut.trans (by repeat (first | (with_reducible first | exact HK.out | apply KeepBut.set_ | apply keep_drewN | apply keep_drew | apply keep_alloc | refine keep_far ?_ GW127.out _) | exact HK.out)) (KeepBut.of_below hb g none) (.inl rfl)); have n4_ := qM (below_step (by repeat (first | (with_reducible first | exact HB.out | apply yA | apply yN | apply yD | refine yS ?_ (IsS63.ge HI0.out) | refine yS ?_ GE127.out) | exact HB.out)) hb); clear HI0; clear BK127; clear HK; clear HB; have HO133 := n0_; have HI0 := n1_; have BK127 := n2_; have HK := n3_; have HB := n4_; clear n0_ n1_ n2_ n3_ n4_; (try clear hb); (try clear hb2); (try clear hk); (try clear hi); (try clear ho0)) | ((with_reducible refine gate_dst (N := 3) rfl ?_); (try (refine gate_guard (by rfl) ?_; dsimp only)); refine box_event ?hg (N := 3) ?hd (cs := #[.int .i64 0, .slice none 0 0]) (t := 25) ?hr ?_; (case hd => rfl); (case hg => rfl); (case hr => first | (go_simp; done) | (go_simp; rfl)); intro gb134 hg w8 hbox hb; have n0_ := qM (Kd.S_below (by (with_reducible repeat (first | apply Kd.S_alloc | apply Kd.S_drewN | apply Kd.S_drew)); exact HO133.out) hb); have n1_ := qM (IsS63.below (by repeat (first | (with_reducible first | exact HI0.out | apply IsS63.alloc | apply IsS63.drewN | apply IsS63.drew | apply IsS63.set_1 | refine IsS63.far ?_ NB0_127.out _) | exact HI0.out)) hb); have n2_ := qM (blk_below (g := gb127) (o := .cells #[.int .i64 0, .slice none 0 0] 25 (0, 0)) (by (with_reducible repeat (first | refine zN ?_ _ | refine zD ?_ | refine zA ?_ _)); exact BK127.out) hb); have n3_ := qM (KeepBut.trans (by repeat (first | (with_reducible first | exact HK.out | apply KeepBut.set_ | apply keep_drewN | apply keep_drew | apply keep_alloc | refine keep_far ?_ GW127.out _) | exact HK.out)) (KeepBut.of_below hb g none) (.inl rfl)); have n4_ := qM (below_step (by repeat (first | (with_reducible first | exact HB.out | apply yA | apply yN | apply yD | refine yS ?_ (IsS63.ge HI0.out) | refine yS ?_ GE127.out) | exact HB.out)) hb); have n5_ := qM (hbox); have n6_ := qM ((by rw [hg]; exact (keep_size (w := w) (g := g) (row := none) (by repeat (first | (with_reducible first | exact HK.out | apply KeepBut.set_ | apply keep_drewN | apply keep_drew | apply keep_alloc | refine keep_far ?_ GW127.out _) | exact HK.out))) : w.heap.size ≤ gb134)); have n7_ := qM ((Nat.le_trans HW0.out (by rw [hg]; exact (keep_size (w := w) (g := g) (row := none) (by repeat (first | (with_reducible first | exact HK.out | apply KeepBut.set_ | apply keep_drewN | apply keep_drew | apply keep_alloc | refine keep_far ?_ GW127.out _) | exact HK.out))) : w.heap.size ≤ gb134) : w0.heap.size ≤ gb134)); have n8_ := qM ((by rw [hg]; exact Nat.ne_of_lt (blk_lt (g := gb127) (o := .cells #[.int .i64 0, .slice none 0 0] 25 (0, 0)) (by (with_reducible repeat (first | refine zN ?_ _ | refine zD ?_ | refine zA ?_ _)); exact BK127.out)) : gb127 ≠ gb134)); have n9_ := qM ((by rw [hg]; exact Nat.ne_of_gt (blk_lt (g := gb127) (o := .cells #[.int .i64 0, .slice none 0 0] 25 (0, 0)) (by (with_reducible repeat (first | refine zN ?_ _ | refine zD ?_ | refine zA ?_ _)); exact BK127.out)) : gb134 ≠ gb127)); have n10_ := qM ((by rw [hg]; exact Nat.ne_of_lt (IsS63.lt (show IsS63 w0 _ g s0_0 t129 from by repeat (first | (with_reducible first | exact HI0.out | apply IsS63.alloc | apply IsS63.drewN | apply IsS63.drew | apply IsS63.set_1 | refine IsS63.far ?_ NB0_127.out _) | exact HI0.out))) : g ≠ gb134)); have n11_ := qM ((by rw [hg]; exact Nat.ne_of_gt (IsS63.lt (show IsS63 w0 _ g s0_0 t129 from by repeat (first | (with_reducible first | exact HI0.out | apply IsS63.alloc | apply IsS63.drewN | apply IsS63.drew | apply IsS63.set_1 | refine IsS63.far ?_ NB0_127.out _) | exact HI0.out))) : gb134 ≠ g)); clear HO133; clear HI0; clear BK127; clear HK; clear HB; have HO133 := n0_; have HI0 := n1_; have BK127 := n2_; have HK := n3_; have HB := n4_; have BK134 := n5_; have GW134 := n6_; have GE134 := n7_; have NB127_134 := n8_; have NB134_127 := n9_; have NB0_134 := n10_; have NB134_0 := n11_; clear n0_ n1_ n2_ n3_ n4_ n5_ n6_ n7_ n8_ n9_ n10_ n11_; clear hb hbox hg; have hnb9 := NB134_127.out; have hnc9 := NB127_134.out; have hnb10 := NB134_0.out; have hnc10 := NB0_134.out; have hcz11_0 : w8.cell? ⟨gb134, 0, none⟩ = some (.int .i64 0) := (zC BK134.out 0).trans rfl; have hcz11_1 : w8.cell? ⟨gb134, 1, none⟩ = some (.slice none 0 0) := (zC BK134.out 1).trans rfl; have hfz11_0 := zF BK134.out 0; have hfz11_1 := zF BK134.out 1; obtain ⟨Ao12, co12, eo12⟩ := Kd.S_slice HO133.out; subst eo12) | ((with_reducible refine gate_callee (f := 50) rfl ?_); refine goesL_ (some 10) rfl rfl Try.func50 (by kernel_rfl) rfl #[.pointer (some ⟨g, 0, none⟩), .int .i64 5] rfl (by (try simp only [List.map_toArray, List.map_cons, List.map_nil]); first | done | rfl | (simp only [List.length_drop, List.length_take]; rfl)) ?_; (with_reducible refine (spec_l30Rd_pick.calls k g s0_0 t129 5 t135 t136 w0 _ ?side1 ?side2 A4.out).mono ?_); (case side1 => repeat (first | (with_reducible first | exact HI0.out | apply IsS63.alloc | apply IsS63.drewN | apply IsS63.drew | apply IsS63.set_1 | refine IsS63.far ?_ NB0_127.out _ | refine IsS63.far ?_ NB0_134.out _) | exact HI0.out)); (case side2 => repeat (first | (with_reducible first | exact HB.out | apply yA | apply yN | apply yD | refine yS ?_ (IsS63.ge HI0.out) | refine yS ?_ GE127.out | refine yS ?_ GE134.out) | exact HB.out)); rintro e w13 ⟨rfl, hi, hb, hk⟩; refine ⟨_, rfl, ?_⟩; have n0_ := qM (KeepBut.blk hk (g' := gb127) (o := .cells #[.int .i64 0, .slice none 0 0] 25 (0, 0)) (by (with_reducible repeat (first | refine zN ?_ _ | refine zD ?_ | refine zA ?_ _)); refine blk_far ?_ NB127_134.out _; (with_reducible repeat (first | refine zN ?_ _ | refine zD ?_ | refine zA ?_ _)); refine blk_far ?_ NB127_134.out _; (with_reducible repeat (first | refine zN ?_ _ | refine zD ?_ | refine zA ?_ _)); exact BK127.out) NB127_0.out (by simp)); have n1_ := qM (Kd.S_mono (Kd.S_keep (IsS63.apartS (show IsS63 w0 _ g s0_0 t129 from by repeat (first | (with_reducible first | exact HI0.out | apply IsS63.alloc | apply IsS63.drewN | apply IsS63.drew | apply IsS63.set_1 | refine IsS63.far ?_ NB0_127.out _ | refine IsS63.far ?_ NB0_134.out _) | exact HI0.out)) (by (with_reducible repeat (first | apply Kd.S_alloc | apply Kd.S_drewN | apply Kd.S_drew)); exact (Kd.S_mono (Kd.S_far (p := ⟨gb134, 1, none⟩) (Kd.S_far (p := ⟨gb134, 0, none⟩) (Kd.S_types HO133.out BK134.out (by decide)) (fun _ hk => hk.2) (.int .i64 t130)) (fun _ hk => hk.2) (.slice Ao12 t131.length co12)) (fun _ h_ => h_.1))) (by decide)) hk (fun _ h => h.2)) (fun _ h => h.1)); have n2_ := qM (KeepBut.blk hk (g' := gb134) (o := .cells #[.int .i64 t130, .slice Ao12 t131.length co12] 25 (0, 0)) (by (with_reducible repeat (first | refine zN ?_ _ | refine zD ?_ | refine zA ?_ _)); refine blk_put (cs := #[.int .i64 t130, .slice none 0 0]) ?_ 1 _ rfl; (with_reducible repeat (first | refine zN ?_ _ | refine zD ?_ | refine zA ?_ _)); refine blk_put (cs := #[.int .i64 0, .slice none 0 0]) ?_ 0 _ rfl; (with_reducible repeat (first | refine zN ?_ _ | refine zD ?_ | refine zA ?_ _)); exact BK134.out) NB134_0.out (by simp)); have n3_ := qM (KeepBut.trans (by repeat (first | (with_reducible first | exact HK.out | apply KeepBut.set_ | apply keep_drewN | apply keep_drew | apply keep_alloc | refine keep_far ?_ GW127.out _ | refine keep_far ?_ GW134.out _) | exact HK.out)) hk (.inl rfl)); have n4_ := qM (hb); have n5_ := qM (hi); clear BK127; clear HO133; clear BK134; clear HK; clear HB; clear HI0; have BK127 := n0_; have HO133 := n1_; have BK134 := n2_; have HK := n3_; have HB := n4_; have HI0 := n5_; clear n0_ n1_ n2_ n3_ n4_ n5_; (try clear hb); (try clear hb2); (try clear hk); (try clear hi)))
 go_loopg [4] k (fun kq v4 w' => ∃ (x4_1 : Int) (x1001_1 : Int) (x135001_1 : List (List Int)) (u135001 : Value), v4 = .int .i64 x4_1 ∧ Aside0 (spec_l31Box.l0 kq x4_1 s0_0 x1001_1 t130 x135001_1 = some (r1, r2, r3)) ∧ Aside0 (kq ≤ k) ∧ Aside0 (Kd.S (Kd.slice 5 (Kd.int .u8)) 22 w' w.heap.size (fun _ => True) u135001 x135001_1) ∧ Aside0 (w'.heap[gb127]? = some (.cells #[.int .i64 0, (.slice none 0 0)] 25 (0, 0))) ∧ Aside0 (w'.heap[gb134]? = some (.cells #[.int .i64 t130, u135001] 25 (0, 0))) ∧ Aside0 (IsS63 w0 w' g s0_0 x1001_1) ∧ Aside0 (KeepBut w w' g none) ∧ Aside0 (Below w0.heap.size w0 w'))
 case atStart => exact ⟨(t135), (t136), (t131), (.slice Ao12 t131.length co12), (by first | rfl | (simp; done) | (simp [*]; done)), H', ⟨Nat.le_refl _⟩, ⟨by (with_reducible repeat (first | apply Kd.S_alloc | apply Kd.S_drewN | apply Kd.S_drew)); exact HO133.out⟩, ⟨by (with_reducible repeat (first | refine zN ?_ _ | refine zD ?_ | refine zA ?_ _)); exact BK127.out⟩, ⟨by (with_reducible repeat (first | refine zN ?_ _ | refine zD ?_ | refine zA ?_ _)); exact BK134.out⟩, ⟨by repeat (first | (with_reducible first | exact HI0.out | apply IsS63.alloc | apply IsS63.drewN | apply IsS63.drew | apply IsS63.set_1 | refine IsS63.far ?_ NB0_127.out _ | refine IsS63.far ?_ NB0_134.out _) | exact HI0.out)⟩, ⟨by repeat (first | (with_reducible first | exact HK.out | apply KeepBut.set_ | apply keep_drewN | apply keep_drew | apply keep_alloc | refine keep_far ?_ GW127.out _ | refine keep_far ?_ GW134.out _) | exact HK.out)⟩, ⟨by repeat (first | (with_reducible first | exact HB.out | apply yA | apply yN | apply yD | refine yS ?_ (IsS63.ge HI0.out) | refine yS ?_ GE127.out | refine yS ?_ GE134.out) | exact HB.out)⟩⟩
 case round =>
  clear H'
  try clear c1
  try clear p2
  try clear c4
  try clear c5
  try clear p6
  try clear c9
  try clear c10
  try clear hcz11_0
  try clear hcz11_1
  try clear hfz11_0
  try clear hfz11_1
  obtain ⟨x4_1, x1001_1, x135001_1, u135001, rfl, HA, HK1, HO_135001, BK127, BK134, HI0, HK, HB⟩ := hrel
  cases gk with
  | zero => exact absurd HA.out (by simp [spec_l31Box.l0])
  | succ k1 =>
   have H := HA.out
   clear HA
   simp only [spec_l31Box.l0] at H
   have HC14 := qM H
   clear H
   go_upto_region 3 with (fail)
   go_cut [20] (fun v20 wc => ∃ (kq : Nat) (x20_13 : Bool), v20 = .bool x20_13 ∧ Aside0 (spec_l31Box.j1 kq x4_1 x20_13 s0_0 x1001_1 t130 x135001_1 = some (r1, r2, r3)) ∧ Aside0 (kq ≤ k1) ∧ Aside0 (Kd.S (Kd.slice 5 (Kd.int .u8)) 22 wc w.heap.size (fun _ => True) u135001 x135001_1) ∧ Aside0 (wc.heap[gb127]? = some (.cells #[.int .i64 0, (.slice none 0 0)] 25 (0, 0))) ∧ Aside0 (wc.heap[gb134]? = some (.cells #[.int .i64 t130, u135001] 25 (0, 0))) ∧ Aside0 (IsS63 w0 wc g s0_0 x1001_1) ∧ Aside0 (KeepBut w wc g none) ∧ Aside0 (Below w0.heap.size w0 wc))
   case first =>
    have H := HC14.out
    clear HC14
    by_cases c15 : x4_1 > 0
    ·rw [if_pos c15] at H
     have c15b0 : decide (0 < x4_1) = true := decide_eq_true c15
     clear c15
     (first | rw [c15b0] | (simp only [i64_w, i32_w]; rw [c15b0]) | skip)
     have H' := qM H
     clear H
     have hnb16 := NB134_127.out
     have hnc16 := NB127_134.out
     have hnb17 := NB134_0.out
     have hnc17 := NB0_134.out
     have hcz18_0 : wr.cell? ⟨gb134, 0, none⟩ = some (.int .i64 t130) := (zC BK134.out 0).trans rfl
     have hcz18_1 : wr.cell? ⟨gb134, 1, none⟩ = some (u135001) := (zC BK134.out 1).trans rfl
     have hfz18_0 := zF BK134.out 0
     have hfz18_1 := zF BK134.out 1
     obtain ⟨Ao19, co19, eo19⟩ := Kd.S_slice HO_135001.out
     subst eo19
     go_wp2
     go_meet
     case rel => exact ⟨_, (decide ((x135001_1.length : Int) < t130)), (by first | rfl | (simp; done) | (simp [*]; done)), H', ⟨by have := HK1.out; first | omega | exact Nat.le_refl _⟩, ⟨by (with_reducible repeat (first | apply Kd.S_alloc | apply Kd.S_drewN | apply Kd.S_drew)); exact HO_135001.out⟩, ⟨by (with_reducible repeat (first | refine zN ?_ _ | refine zD ?_ | refine zA ?_ _)); exact BK127.out⟩, ⟨by (with_reducible repeat (first | refine zN ?_ _ | refine zD ?_ | refine zA ?_ _)); exact BK134.out⟩, ⟨by repeat (first | (with_reducible first | exact HI0.out | apply IsS63.alloc | apply IsS63.drewN | apply IsS63.drew | apply IsS63.set_1 | refine IsS63.far ?_ NB0_127.out _ | refine IsS63.far ?_ NB0_134.out _) | exact HI0.out)⟩, ⟨by repeat (first | (with_reducible first | exact HK.out | apply KeepBut.set_ | apply keep_drewN | apply keep_drew | apply keep_alloc | refine keep_far ?_ GW127.out _ | refine keep_far ?_ GW134.out _) | exact HK.out)⟩, ⟨by repeat (first | (with_reducible first | exact HB.out | apply yA | apply yN | apply yD | refine yS ?_ (IsS63.ge HI0.out) | refine yS ?_ GE127.out | refine yS ?_ GE134.out) | exact HB.out)⟩⟩
    ·rw [if_neg c15] at H
     have c15b0 : decide (0 < x4_1) = false := decide_eq_false c15
     clear c15
     (first | rw [c15b0] | (simp only [i64_w, i32_w]; rw [c15b0]) | skip)
     have H' := qM H
     clear H
     go_wp2
     go_meet
     case rel => exact ⟨_, (false), (by first | rfl | (simp; done) | (simp [*]; done)), H', ⟨by have := HK1.out; first | omega | exact Nat.le_refl _⟩, ⟨by (with_reducible repeat (first | apply Kd.S_alloc | apply Kd.S_drewN | apply Kd.S_drew)); exact HO_135001.out⟩, ⟨by (with_reducible repeat (first | refine zN ?_ _ | refine zD ?_ | refine zA ?_ _)); exact BK127.out⟩, ⟨by (with_reducible repeat (first | refine zN ?_ _ | refine zD ?_ | refine zA ?_ _)); exact BK134.out⟩, ⟨by repeat (first | (with_reducible first | exact HI0.out | apply IsS63.alloc | apply IsS63.drewN | apply IsS63.drew | apply IsS63.set_1 | refine IsS63.far ?_ NB0_127.out _ | refine IsS63.far ?_ NB0_134.out _) | exact HI0.out)⟩, ⟨by repeat (first | (with_reducible first | exact HK.out | apply KeepBut.set_ | apply keep_drewN | apply keep_drew | apply keep_alloc | refine keep_far ?_ GW127.out _ | refine keep_far ?_ GW134.out _) | exact HK.out)⟩, ⟨by repeat (first | (with_reducible first | exact HB.out | apply yA | apply yN | apply yD | refine yS ?_ (IsS63.ge HI0.out) | refine yS ?_ GE127.out | refine yS ?_ GE134.out) | exact HB.out)⟩⟩
   case rest =>
    clear HC14
    try clear c1
    try clear p2
    try clear c4
    try clear c5
    try clear p6
    try clear c9
    try clear c10
    try clear c15
    try clear c15b0
    try clear c16
    try clear c17
    try clear hcz11_0
    try clear hcz11_1
    try clear hcz18_0
    try clear hcz18_1
    try clear hfz11_0
    try clear hfz11_1
    try clear hfz18_0
    try clear hfz18_1
    try clear p2
    try clear p6
    obtain ⟨kq, x20_13, rfl, HA, HJ13, HO_135001, BK127, BK134, HI0, HK, HB⟩ := hcut
    cases kq with
    | zero => exact absurd HA.out (by simp [spec_l31Box.j1])
    | succ kj13 =>
     have H := HA.out
     clear HA
     simp only [spec_l31Box.j1] at H
     by_cases c20 : x20_13 = true
     ·subst c20
      have H1 : ((spec_l30Rd_pick.f kj13 s0_0 x1001_1 5).bind fun bt137 => ((spec_l30Bytes.f kj13 s0_0 bt137.2 bt137.1).bind fun bt139 => (if x135001_1.length < 5864062014805 then (spec_l31Box.l0 kj13 (wrap64 (x4_1 - 1)) s0_0 bt139.2 t130 (x135001_1 ++ [bt139.1])) else (none)))) = some (r1, r2, r3) := by rw [if_pos rfl] at H; exact H
      clear H
      have H := H1
      clear H1
      replace H := Option.bind_eq_some_iff.mp H
      obtain ⟨⟨t137, t138⟩, A210, H⟩ := H
      replace H : ((spec_l30Bytes.f kj13 s0_0 t138 t137).bind fun bt139 => (if x135001_1.length < 5864062014805 then (spec_l31Box.l0 kj13 (wrap64 (x4_1 - 1)) s0_0 bt139.2 t130 (x135001_1 ++ [bt139.1])) else (none))) = some (r1, r2, r3) := H
      have A21 := qM A210
      clear A210
      replace H := Option.bind_eq_some_iff.mp H
      obtain ⟨⟨t139, t142⟩, A220, H⟩ := H
      replace H : (if x135001_1.length < 5864062014805 then (spec_l31Box.l0 kj13 (wrap64 (x4_1 - 1)) s0_0 t142 t130 (x135001_1 ++ [t139])) else (none)) = some (r1, r2, r3) := H
      have A22 := qM A220
      clear A220
      by_cases c23 : x135001_1.length < 5864062014805
      ·rw [if_pos c23] at H
       have LMc23 := qM c23
       clear c23
       obtain ⟨y143, hy143⟩ : ∃ y_ : List (List Int), y_ = (x135001_1 ++ [t139]) := ⟨_, rfl⟩
       replace H : (spec_l31Box.l0 kj13 (wrap64 (x4_1 - 1)) s0_0 t142 t130 y143) = some (r1, r2, r3) := by first | (rw [hy143]; with_reducible exact H) | (have H2_ := (Option.bind_some _ _).symm.trans H; rw [hy143]; with_reducible exact H2_) | (have H2_ := (Option.bind_some _ _).symm.trans H; with_reducible exact H2_) | with_reducible exact H | (rw [hy143]; exact H) | exact H
       have Ny143 := qM hy143
       clear hy143
       have H' := qM H
       clear H
       try go_wp2
       have n0_ := qM (Kd.S_drew HO_135001.out)
       have n1_ := qM (zD BK127.out)
       have n2_ := qM (zD BK134.out)
       have n3_ := qM (IsS63.drew HI0.out)
       have n4_ := qM (keep_drew HK.out)
       have n5_ := qM (yD HB.out)
       clear HO_135001
       clear BK127
       clear BK134
       clear HI0
       clear HK
       clear HB
       have HO_135001 := n0_
       have BK127 := n1_
       have BK134 := n2_
       have HI0 := n3_
       have HK := n4_
       have HB := n5_
       clear n0_ n1_ n2_ n3_ n4_ n5_
       refine start_ (n := 10) (S := fun w' => w'.cell? ⟨gb134, 0, none⟩ = some (.int .i64 t130) ∧ w'.cell? ⟨gb134, 1, none⟩ = some (u135001)) (ds := [9]) #[false, false, false, false, false, false, false, false, false, false] (by kernel_rfl) rfl rfl ⟨(zC BK134.out 0).trans rfl, (zC BK134.out 1).trans rfl⟩ (fun hHeld => ?_); refine with_tabW spec_l31Box.tab5 spec_l31Box.bits5 (fun HT_ HW_ => ?_)
       generalize wc.drew = w24 at HO_135001 BK127 BK134 HI0 HK HB hHeld ⊢
       refine pure_ (i := 0) (N := some 23) (v := ?_) (a' := ?_) #[true, false, false, false, false, false, false, false, false, false] rfl rfl (any_of HT_.out (by kernel_rfl)) (fun _ _ _ h => h) (Or.inl ⟨by rfl, ?_⟩) ?_ ?_
       rotate_left
       ·intro w'
        go_simp
        with_reducible rfl
       rotate_left
       ·simp only [Act.put, List.setIfInBounds_toArray, List.set_cons_zero, List.set_cons_succ, i64_w, i32_w]
        rfl
       refine pure_ (i := 2) (N := some 25) (v := ?_) (a' := ?_) #[true, false, true, false, false, false, false, false, false, false] rfl rfl (any_of HT_.out (by kernel_rfl)) (fun _ _ _ h => h) (Or.inl ⟨by rfl, ?_⟩) ?_ ?_
       rotate_left
       ·intro w'
        go_simp
        with_reducible rfl
       rotate_left
       ·simp only [Act.put, List.setIfInBounds_toArray, List.set_cons_zero, List.set_cons_succ, i64_w, i32_w]
        rfl
       refine pure_ (i := 3) (N := some 26) (v := ?_) (a' := ?_) #[true, false, true, true, false, false, false, false, false, false] rfl rfl (any_of HT_.out (by kernel_rfl)) (fun _ _ _ h => h) (Or.inl ⟨by rfl, ?_⟩) ?_ ?_
       rotate_left
       ·intro w'
        go_simp
        with_reducible rfl
       rotate_left
       ·simp only [Act.put, List.setIfInBounds_toArray, List.set_cons_zero, List.set_cons_succ, i64_w, i32_w]
        rfl
       refine take_ (i := 1) (N := some 24) (v := ?_) (a' := ?_) #[true, true, true, true, false, false, false, false, false, false] rfl rfl (take_ofW HT_.out HW_.out (by kernel_rfl)) (fun _ _ _ h => h) (Or.inl ⟨by rfl, ?_⟩) hHeld ?_ ?_
       rotate_left
       ·rintro w' ⟨s0, s1⟩
        go_simp
        with_reducible rfl
       rotate_left
       ·simp only [Act.put, List.setIfInBounds_toArray, List.set_cons_zero, List.set_cons_succ, i64_w, i32_w]
        rfl
       refine one_ (i := 4) (N := some 27) #[true, true, true, true, true, false, false, false, false, false] rfl rfl (one_of HT_.out (by kernel_rfl)) (by decide) (fun K hK => ?_)
       refine goes_ Try.func50 (by kernel_rfl) rfl #[.pointer (some ⟨g, 0, none⟩), .int .i64 5] (by rfl) rfl rfl (by (try simp only [List.map_toArray, List.map_cons, List.map_nil]); first | done | rfl | (simp only [List.length_drop, List.length_take]; rfl)) ?_
       with_reducible refine (spec_l30Rd_pick.calls kj13 g s0_0 x1001_1 5 t137 t138 w0 _ ?side1 ?side2 A21.out).mono ?_
       (case side1 => repeat (first | (with_reducible first | exact HI0.out | apply IsS63.alloc | apply IsS63.drewN | apply IsS63.drew | apply IsS63.set_1 | refine IsS63.far ?_ NB0_127.out _ | refine IsS63.far ?_ NB0_134.out _) | exact HI0.out))
       (case side2 => repeat (first | (with_reducible first | exact HB.out | apply yA | apply yN | apply yD | refine yS ?_ (IsS63.ge HI0.out) | refine yS ?_ GE127.out | refine yS ?_ GE134.out) | exact HB.out))
       rintro e w25 ⟨rfl, hi, hb, hk⟩
       refine ⟨_, rfl, ?_⟩
       have n0_ := qM (Kd.S_mono (Kd.S_keep (IsS63.apartS (show IsS63 w0 _ g s0_0 x1001_1 from by repeat (first | (with_reducible first | exact HI0.out | apply IsS63.alloc | apply IsS63.drewN | apply IsS63.drew | apply IsS63.set_1 | refine IsS63.far ?_ NB0_127.out _ | refine IsS63.far ?_ NB0_134.out _) | exact HI0.out)) (by (with_reducible repeat (first | apply Kd.S_alloc | apply Kd.S_drewN | apply Kd.S_drew)); exact HO_135001.out) (by decide)) hk (fun _ h => h.2)) (fun _ h => h.1))
       have n1_ := qM (KeepBut.blk hk (g' := gb127) (o := .cells #[.int .i64 0, .slice none 0 0] 25 (0, 0)) (by (with_reducible repeat (first | refine zN ?_ _ | refine zD ?_ | refine zA ?_ _)); exact BK127.out) NB127_0.out (by simp))
       have n2_ := qM (KeepBut.blk hk (g' := gb134) (o := .cells #[.int .i64 t130, u135001] 25 (0, 0)) (by (with_reducible repeat (first | refine zN ?_ _ | refine zD ?_ | refine zA ?_ _)); exact BK134.out) NB134_0.out (by simp))
       have n3_ := qM (KeepBut.trans (by repeat (first | (with_reducible first | exact HK.out | apply KeepBut.set_ | apply keep_drewN | apply keep_drew | apply keep_alloc | refine keep_far ?_ GW127.out _ | refine keep_far ?_ GW134.out _) | exact HK.out)) hk (.inl rfl))
       have n4_ := qM (hb)
       have n5_ := qM (hi)
       clear HO_135001
       clear BK127
       clear BK134
       clear HK
       clear HB
       clear HI0
       have HO_135001 := n0_
       have BK127 := n1_
       have BK134 := n2_
       have HK := n3_
       have HB := n4_
       have HI0 := n5_
       clear n0_ n1_ n2_ n3_ n4_ n5_
       (try clear hb)
       (try clear hb2)
       (try clear hk)
       (try clear hi)
       refine hK.out _ _ ⟨(zC BK134.out 0).trans rfl, (zC BK134.out 1).trans rfl⟩ (fun hHeld => ?_)
       clear hK K
       refine norm_ (a' := ?_) ?_ ?_
       rotate_left
       ·show Act.put _ (some 27) _ = _
        simp only [Act.put, List.setIfInBounds_toArray, List.set_cons_zero, List.set_cons_succ, i64_w, i32_w]
        rfl
       refine one_ (i := 5) (N := some 28) #[true, true, true, true, true, true, false, false, false, false] rfl rfl (one_of HT_.out (by kernel_rfl)) (by decide) (fun K hK => ?_)
       refine goes_ Try.func51 (by kernel_rfl) rfl #[.pointer (some ⟨g, 0, none⟩), .int .i64 t137] (by rfl) rfl rfl (by (try simp only [List.map_toArray, List.map_cons, List.map_nil]); first | done | rfl | (simp only [List.length_drop, List.length_take]; rfl)) ?_
       with_reducible refine (spec_l30Bytes.calls kj13 g s0_0 t138 t137 t139 t142 w0 _ ?side1 ?side2 A22.out).mono ?_
       (case side1 => repeat (first | (with_reducible first | exact HI0.out | apply IsS63.alloc | apply IsS63.drewN | apply IsS63.drew | apply IsS63.set_1 | refine IsS63.far ?_ NB0_127.out _ | refine IsS63.far ?_ NB0_134.out _) | exact HI0.out))
       (case side2 => repeat (first | (with_reducible first | exact HB.out | apply yA | apply yN | apply yD | refine yS ?_ (IsS63.ge HI0.out) | refine yS ?_ GE127.out | refine yS ?_ GE134.out) | exact HB.out))
       rintro e w26 ⟨v140, rfl, ho0, hi, hb, hk⟩
       refine ⟨_, rfl, ?_⟩
       have n0_ := qM (Kd.S_mono (Kd.S_told (Kd.S_oldK (IsS63.apartS (show IsS63 w0 _ g s0_0 t138 from by repeat (first | (with_reducible first | exact HI0.out | apply IsS63.alloc | apply IsS63.drewN | apply IsS63.drew | apply IsS63.set_1 | refine IsS63.far ?_ NB0_127.out _ | refine IsS63.far ?_ NB0_134.out _) | exact HI0.out)) (by (with_reducible repeat (first | apply Kd.S_alloc | apply Kd.S_drewN | apply Kd.S_drew)); exact HO_135001.out) (by decide)) hk) (Kd.R_base ho0)) (fun _ h_ => h_.1))
       have n1_ := qM (KeepBut.blk hk (g' := gb127) (o := .cells #[.int .i64 0, .slice none 0 0] 25 (0, 0)) (by (with_reducible repeat (first | refine zN ?_ _ | refine zD ?_ | refine zA ?_ _)); exact BK127.out) NB127_0.out (by simp))
       have n2_ := qM (KeepBut.blk hk (g' := gb134) (o := .cells #[.int .i64 t130, u135001] 25 (0, 0)) (by (with_reducible repeat (first | refine zN ?_ _ | refine zD ?_ | refine zA ?_ _)); exact BK134.out) NB134_0.out (by simp))
       have n3_ := qM (Kd.R_lower ho0 (keep_size (w := w) (g := g) (row := none) (by repeat (first | (with_reducible first | exact HK.out | apply KeepBut.set_ | apply keep_drewN | apply keep_drew | apply keep_alloc | refine keep_far ?_ GW127.out _ | refine keep_far ?_ GW134.out _) | exact HK.out))))
       have n4_ := qM (KeepBut.trans (by repeat (first | (with_reducible first | exact HK.out | apply KeepBut.set_ | apply keep_drewN | apply keep_drew | apply keep_alloc | refine keep_far ?_ GW127.out _ | refine keep_far ?_ GW134.out _) | exact HK.out)) hk (.inl rfl))
       have n5_ := qM (hb)
       have n6_ := qM (hi)
       clear HO_135001
       clear BK127
       clear BK134
       clear HK
       clear HB
       clear HI0
       have HO_135001 := n0_
       have BK127 := n1_
       have BK134 := n2_
       have HO141 := n3_
       have HK := n4_
       have HB := n5_
       have HI0 := n6_
       clear n0_ n1_ n2_ n3_ n4_ n5_ n6_
       (try clear hb)
       (try clear hb2)
       (try clear hk)
       (try clear hi)
       (try clear ho0)
       obtain ⟨Ao28, co28, eo28⟩ := Kd.R_slice HO141.out
       (first | subst eo28 | (injection eo28 with f1_ f2_ f3_; have f4_ := f1_.symm; have f5_ := f3_.symm; clear f1_ f2_ f3_; subst f4_; subst f5_))
       refine hK.out _ _ ⟨(zC BK134.out 0).trans rfl, (zC BK134.out 1).trans rfl⟩ (fun hHeld => ?_)
       clear hK K
       refine norm_ (a' := ?_) ?_ ?_
       rotate_left
       ·show Act.put _ (some 28) _ = _
        simp only [Act.put, List.setIfInBounds_toArray, List.set_cons_zero, List.set_cons_succ, i64_w, i32_w]
        rfl
       refine one_ (i := 6) (N := some 29) #[true, true, true, true, true, true, true, false, false, false] rfl rfl (one_of HT_.out (by kernel_rfl)) (by decide) (fun K hK => ?_)
       refine value_ (w1 := ?_) (v := ?_) (by rfl) rfl ?_ ?_
       rotate_left 2
       ·go_simp
        constructor
        ·rfl
        ·rfl
       refine hK.out _ _ ⟨(zC (zA BK134.out _) 0).trans rfl, (zC (zA BK134.out _) 1).trans rfl⟩ (fun hHeld => ?_)
       clear hK K
       refine norm_ (a' := ?_) ?_ ?_
       rotate_left
       ·show Act.put _ (some 29) _ = _
        simp only [Act.put, List.setIfInBounds_toArray, List.set_cons_zero, List.set_cons_succ, i64_w, i32_w]
        rfl
       refine one_ (i := 7) (N := some 30) #[true, true, true, true, true, true, true, true, false, false] rfl rfl (one_of HT_.out (by kernel_rfl)) (by decide) (fun K hK => ?_)
       refine Kd.S_append_step (Kd.slice 5 (Kd.int .u8)) w.heap.size (by rfl) (.tmp 24) (.tmp 29) 23 22 (.slice none 0 0) 24 rfl Try.underlying23 info22 rfl (by decide) (by omega) u135001 x135001_1 t139 [.slice Ao28 t139.length co28] (fun _ => True) (fun k_ => some k_ = (.slice Ao28 t139.length co28 : Value).ownBlock) rfl rfl ?aP (fun k_ hk_ => ((Kd.R_mono (ok' := fun k_ => ((fun _ => True)) k_ ∧ some k_ ≠ (u135001 : Value).ownBlock) (Kd.R_apart' (HO141.out) (Kd.S_typed HO_135001.out) (by decide)) (fun k_ hk => ⟨trivial, hk.2⟩))).1 k_ hk_.symm) ?aF ?aO (Below.refl _ _) ?aS ?aL ?_
       (case aP => exact Kd.M_row (Kd.R_mono (Kd.R_tight rfl (Kd.R_mono (ok' := fun k_ => ((fun _ => True)) k_ ∧ some k_ ≠ (u135001 : Value).ownBlock) (Kd.R_apart' (HO141.out) (Kd.S_typed HO_135001.out) (by decide)) (fun k_ hk => ⟨trivial, hk.2⟩))) (fun _ h_ => h_)))
       (case aF => exact (fun _ _ => trivial))
       (case aO => exact (by (with_reducible repeat (first | apply Kd.S_alloc | apply Kd.S_drewN | apply Kd.S_drew)); exact Kd.S_mono HO_135001.out (fun k_ hk => ⟨trivial, fun e_ => hk.2 e_⟩)))
       (case aS => exact (keep_size (w := w) (g := g) (row := none) (by repeat (first | (with_reducible first | exact HK.out | apply KeepBut.set_ | apply keep_drewN | apply keep_drew | apply keep_alloc | refine keep_far ?_ GW127.out _ | refine keep_far ?_ GW134.out _) | exact HK.out))))
       (case aL => have := LMc23.out; omega)
       intro v144 w27 ho hb hg hat
       rw [← Ny143.out] at ho
       have n0_ := qM (blk_grown (g := gb127) (o := .cells #[.int .i64 0, .slice none 0 0] 25 (0, 0)) (by (with_reducible repeat (first | refine zN ?_ _ | refine zD ?_ | refine zA ?_ _)); exact BK127.out) hg (Kd.S_ne HO_135001.out BK127.out (by decide)))
       have n1_ := qM (blk_grown (g := gb134) (o := .cells #[.int .i64 t130, u135001] 25 (0, 0)) (by (with_reducible repeat (first | refine zN ?_ _ | refine zD ?_ | refine zA ?_ _)); exact BK134.out) hg (Kd.S_ne HO_135001.out BK134.out (by decide)))
       have n2_ := qM (IsS63.grown (by repeat (first | (with_reducible first | exact HI0.out | apply IsS63.alloc | apply IsS63.drewN | apply IsS63.drew | apply IsS63.set_1 | refine IsS63.far ?_ NB0_127.out _ | refine IsS63.far ?_ NB0_134.out _) | exact HI0.out)) hg (IsS63.own_neS HI0.out HO_135001.out (by decide)))
       have n3_ := qM (below_weaken (by repeat (first | (with_reducible first | exact HB.out | apply yA | apply yN | apply yD | refine yS ?_ (IsS63.ge HI0.out) | refine yS ?_ GE127.out | refine yS ?_ GE134.out) | exact HB.out)) HL.out hb)
       have n4_ := qM (KeepBut.trans (by repeat (first | (with_reducible first | exact HK.out | apply KeepBut.set_ | apply keep_drewN | apply keep_drew | apply keep_alloc | refine keep_far ?_ GW127.out _ | refine keep_far ?_ GW134.out _) | exact HK.out)) (KeepBut.of_grown hg g) (Kd.S_base2 HO_135001.out))
       have n5_ := qM (ho)
       clear BK127
       clear BK134
       clear HI0
       clear HB
       clear HK
       clear HO_135001
       clear HO141
       have BK127 := n0_
       have BK134 := n1_
       have HI0 := n2_
       have HB := n3_
       have HK := n4_
       have HO145 := n5_
       clear n0_ n1_ n2_ n3_ n4_ n5_
       clear ho hb hg hat
       obtain ⟨Ao29, co29, eo29⟩ := Kd.S_slice HO145.out
       (first | subst eo29 | (injection eo29 with f1_ f2_ f3_; have f4_ := f1_.symm; have f5_ := f3_.symm; clear f1_ f2_ f3_; subst f4_; subst f5_))
       refine hK.out _ _ ⟨(zC BK134.out 0).trans rfl, (zC BK134.out 1).trans rfl⟩ (fun hHeld => ?_)
       clear hK K
       refine norm_ (a' := ?_) ?_ ?_
       rotate_left
       ·show Act.put _ (some 30) _ = _
        simp only [Act.put, List.setIfInBounds_toArray, List.set_cons_zero, List.set_cons_succ, i64_w, i32_w]
        rfl
       refine pure_ (i := 8) (N := some 31) (v := ?_) (a' := ?_) #[true, true, true, true, true, true, true, true, true, false] rfl rfl (any_of HT_.out (by kernel_rfl)) (fun _ _ _ h => h) (Or.inl ⟨by rfl, ?_⟩) ?_ ?_
       rotate_left
       ·intro w'
        go_simp
        with_reducible rfl
       rotate_left
       ·simp only [Act.put, List.setIfInBounds_toArray, List.set_cons_zero, List.set_cons_succ, i64_w, i32_w]
        rfl
       refine last_ (i := 9) (N := none) #[true, true, true, true, true, true, true, true, true, true] rfl rfl (one_of HT_.out (by kernel_rfl)) (by decide) (fun K hK => ?_)
       have hs30 : w27.cell? ⟨gb134, 1, none⟩ = some (u135001) := (zC BK134.out 1).trans rfl
       have hfs30 := zF BK134.out 1
       have hns30_0 := NB127_134.out
       have hms30_0 := NB134_127.out
       refine skip_ (w1 := ?_) (by rfl) rfl ?_ ?_
       rotate_left
       ·go_simp
        rfl
       refine hK.out _ _ ?_
       clear hK K
       refine done_ (done_of HT_.out (by kernel_rfl)) ?_
       try go_wp2
       go_roundg kj13
       case measure => have := HK1.out; have := HJ13.out; omega
       case rel => exact ⟨(wrap64 (x4_1 - 1)), (t142), (y143), (.slice Ao29 y143.length co29), (by first | rfl | (simp; done) | (simp [*]; done)), H', ⟨by have := HK1.out; have := HJ13.out; omega⟩, ⟨by (with_reducible repeat (first | apply Kd.S_alloc | apply Kd.S_drewN | apply Kd.S_drew)); exact Kd.S_mono (Kd.S_far (p := ⟨gb134, 1, none⟩) (Kd.S_types HO145.out BK134.out (by decide)) (fun _ hk => hk.2) (.slice Ao29 y143.length co29)) (fun _ hk => trivial)⟩, ⟨by (with_reducible repeat (first | refine zN ?_ _ | refine zD ?_ | refine zA ?_ _)); refine blk_far ?_ NB127_134.out _; (with_reducible repeat (first | refine zN ?_ _ | refine zD ?_ | refine zA ?_ _)); exact BK127.out⟩, ⟨by (with_reducible repeat (first | refine zN ?_ _ | refine zD ?_ | refine zA ?_ _)); refine blk_put (cs := #[.int .i64 t130, u135001]) ?_ 1 _ rfl; (with_reducible repeat (first | refine zN ?_ _ | refine zD ?_ | refine zA ?_ _)); exact BK134.out⟩, ⟨by repeat (first | (with_reducible first | exact HI0.out | apply IsS63.alloc | apply IsS63.drewN | apply IsS63.drew | apply IsS63.set_1 | refine IsS63.far ?_ NB0_127.out _ | refine IsS63.far ?_ NB0_134.out _) | exact HI0.out)⟩, ⟨by repeat (first | (with_reducible first | exact HK.out | apply KeepBut.set_ | apply keep_drewN | apply keep_drew | apply keep_alloc | refine keep_far ?_ GW127.out _ | refine keep_far ?_ GW134.out _) | exact HK.out)⟩, ⟨by repeat (first | (with_reducible first | exact HB.out | apply yA | apply yN | apply yD | refine yS ?_ (IsS63.ge HI0.out) | refine yS ?_ GE127.out | refine yS ?_ GE134.out) | exact HB.out)⟩⟩
      ·rw [if_neg c23] at H
       exact absurd H (by simp)
     ·replace c20 := Bool.eq_false_iff.mpr c20
      subst c20
      have H1 : ((spec_l30Rd_pick.f kj13 s0_0 x1001_1 16).bind fun bt146 => (if bt146.1 = 0 then ((some (([0, 5, (-1)] : List Int) : List Int)).bind fun y148 => ((spec_l30Rd_pick.f kj13 s0_0 bt146.2 3).bind fun bt151 => (if 0 ≤ bt151.1 then (if bt151.1 < (y148.length : Int) then (some (rd y148 bt151.1, x135001_1, bt151.2)) else (none)) else (none)))) else (if bt146.1 = 1 then ((spec_l30Bytes.f kj13 s0_0 bt146.2 9).bind fun bt154 => (if x135001_1.length < 5864062014805 then (some (t130, (x135001_1 ++ [bt154.1]), bt154.2)) else (none))) else (if bt146.1 = 2 then (spec_l31Box.l1 kj13 s0_0 bt146.2 t130 x135001_1) else (some (t130, x135001_1, bt146.2)))))) = some (r1, r2, r3) := by rw [if_neg (show ¬ (false = true) by decide)] at H; exact H
      clear H
      have H := H1
      clear H1
      replace H := Option.bind_eq_some_iff.mp H
      obtain ⟨⟨t146, t147⟩, A310, H⟩ := H
      replace H : (if t146 = 0 then ((some (([0, 5, (-1)] : List Int) : List Int)).bind fun y148 => ((spec_l30Rd_pick.f kj13 s0_0 t147 3).bind fun bt151 => (if 0 ≤ bt151.1 then (if bt151.1 < (y148.length : Int) then (some (rd y148 bt151.1, x135001_1, bt151.2)) else (none)) else (none)))) else (if t146 = 1 then ((spec_l30Bytes.f kj13 s0_0 t147 9).bind fun bt154 => (if x135001_1.length < 5864062014805 then (some (t130, (x135001_1 ++ [bt154.1]), bt154.2)) else (none))) else (if t146 = 2 then (spec_l31Box.l1 kj13 s0_0 t147 t130 x135001_1) else (some (t130, x135001_1, t147))))) = some (r1, r2, r3) := H
      have A31 := qM A310
      clear A310
      by_cases c32 : t146 = 0
      ·rw [if_pos c32] at H
       have c32b0 : (t146 == 0) = true := beq_iff_eq.mpr c32
       have c32b1 : (t146 != 0) = false := bne_eq_false_iff_eq.mpr c32
       clear c32
       obtain ⟨y148, hy148⟩ : ∃ y_ : List Int, y_ = (([0, 5, (-1)] : List Int)) := ⟨_, rfl⟩
       replace H : ((spec_l30Rd_pick.f kj13 s0_0 t147 3).bind fun bt151 => (if 0 ≤ bt151.1 then (if bt151.1 < (y148.length : Int) then (some (rd y148 bt151.1, x135001_1, bt151.2)) else (none)) else (none))) = some (r1, r2, r3) := by first | (rw [hy148]; with_reducible exact H) | (have H2_ := (Option.bind_some _ _).symm.trans H; rw [hy148]; with_reducible exact H2_) | (have H2_ := (Option.bind_some _ _).symm.trans H; with_reducible exact H2_) | with_reducible exact H | (rw [hy148]; exact H) | exact H
       have Ny148 := qM hy148
       clear hy148
       replace H := Option.bind_eq_some_iff.mp H
       obtain ⟨⟨t151, t152⟩, A330, H⟩ := H
       replace H : (if 0 ≤ t151 then (if t151 < (y148.length : Int) then (some (rd y148 t151, x135001_1, t152)) else (none)) else (none)) = some (r1, r2, r3) := H
       have A33 := qM A330
       clear A330
       by_cases c34 : 0 ≤ t151
       ·rw [if_pos c34] at H
        have c34b0 : decide (0 ≤ t151) = true := decide_eq_true c34
        clear c34
        by_cases c35 : t151 < (y148.length : Int)
        ·rw [if_pos c35] at H
         have c35b0 : decide (t151 < (y148.length : Int)) = true := decide_eq_true c35
         clear c35
         simp only [Option.some.injEq, Prod.mk.injEq] at H
         obtain ⟨rfl, rfl, rfl⟩ := H
         go_wp2_with (first | ((with_reducible refine gate_callee (f := 50) rfl ?_); refine goesL_ (some 33) rfl rfl Try.func50 (by kernel_rfl) rfl #[.pointer (some ⟨g, 0, none⟩), .int .i64 16] rfl (by (try simp only [List.map_toArray, List.map_cons, List.map_nil]); first | done | rfl | (simp only [List.length_drop, List.length_take]; rfl)) ?_; (with_reducible refine (spec_l30Rd_pick.calls kj13 g s0_0 x1001_1 16 t146 t147 w0 _ ?side1 ?side2 A31.out).mono ?_); (case side1 => repeat (first | (with_reducible first | exact HI0.out | apply IsS63.alloc | apply IsS63.drewN | apply IsS63.drew | apply IsS63.set_1 | refine IsS63.far ?_ NB0_127.out _ | refine IsS63.far ?_ NB0_134.out _) | exact HI0.out)); (case side2 => repeat (first | (with_reducible first | exact HB.out | apply yA | apply yN | apply yD | refine yS ?_ (IsS63.ge HI0.out) | refine yS ?_ GE127.out | refine yS ?_ GE134.out) | exact HB.out)); rintro e w36 ⟨rfl, hi, hb, hk⟩; refine ⟨_, rfl, ?_⟩; have n0_ := qM (Kd.S_mono (Kd.S_keep (IsS63.apartS (show IsS63 w0 _ g s0_0 x1001_1 from by repeat (first | (with_reducible first | exact HI0.out | apply IsS63.alloc | apply IsS63.drewN | apply IsS63.drew | apply IsS63.set_1 | refine IsS63.far ?_ NB0_127.out _ | refine IsS63.far ?_ NB0_134.out _) | exact HI0.out)) (by (with_reducible repeat (first | apply Kd.S_alloc | apply Kd.S_drewN | apply Kd.S_drew)); exact HO_135001.out) (by decide)) hk (fun _ h => h.2)) (fun _ h => h.1)); have n1_ := qM (KeepBut.blk hk (g' := gb127) (o := .cells #[.int .i64 0, .slice none 0 0] 25 (0, 0)) (by (with_reducible repeat (first | refine zN ?_ _ | refine zD ?_ | refine zA ?_ _)); exact BK127.out) NB127_0.out (by simp)); have n2_ := qM (KeepBut.blk hk (g' := gb134) (o := .cells #[.int .i64 t130, u135001] 25 (0, 0)) (by (with_reducible repeat (first | refine zN ?_ _ | refine zD ?_ | refine zA ?_ _)); exact BK134.out) NB134_0.out (by simp)); have n3_ := qM (KeepBut.trans (by repeat (first | (with_reducible first | exact HK.out | apply KeepBut.set_ | apply keep_drewN | apply keep_drew | apply keep_alloc | refine keep_far ?_ GW127.out _ | refine keep_far ?_ GW134.out _) | exact HK.out)) hk (.inl rfl)); have n4_ := qM (hb); have n5_ := qM (hi); clear HO_135001; clear BK127; clear BK134; clear HK; clear HB; clear HI0; have HO_135001 := n0_; have BK127 := n1_; have BK134 := n2_; have HK := n3_; have HB := n4_; have HI0 := n5_; clear n0_ n1_ n2_ n3_ n4_ n5_; (try clear hb); (try clear hb2); (try clear hk); (try clear hi)) | ((with_reducible refine gate_dst (N := 36) rfl ?_); (try (refine gate_guard (by rfl) ?_; dsimp only)); refine Kd.R_lit (Kd.int .i64) _ 3 ?hg (N := 36) ?hd (xs := ([0, 5, (-1)] : List Int)) (inner := [.int .i64 0, .int .i64 5, .int .i64 (-1)]) (ok := fun _ => True) (okp := fun _ => True) ?hr ?hp (fun _ hk => hk) trivial (Below.refl _ _) (Nat.le_refl _) (by simp) ?_; (case hd => rfl); (case hg => rfl); (case hr => first | (go_simp; done) | (go_simp; rfl)); (case hp => exact (Reps.one (show Kd.M (Kd.int .i64) _ _ _ 0 [.int .i64 0] from rfl) (Reps.one (show Kd.M (Kd.int .i64) _ _ _ 5 [.int .i64 5] from rfl) (Reps.one (show Kd.M (Kd.int .i64) _ _ _ (-1) [.int .i64 (-1)] from rfl) (Reps.none _ _))))); intro v149 w37 ho38 hb hg_ hnew_; clear hg_ hnew_; (first | rw [← Ny148.out] at ho38 | (simp only [Int.reduceToNat] at ho38; rw [← Ny148.out] at ho38)); have n0_ := qM (Kd.S_below (by (with_reducible repeat (first | apply Kd.S_alloc | apply Kd.S_drewN | apply Kd.S_drew)); exact HO_135001.out) hb); have n1_ := qM (Kd.R_lower ho38 (keep_size (w := w) (g := g) (row := none) (by repeat (first | (with_reducible first | exact HK.out | apply KeepBut.set_ | apply keep_drewN | apply keep_drew | apply keep_alloc | refine keep_far ?_ GW127.out _ | refine keep_far ?_ GW134.out _) | exact HK.out)))); have n2_ := qM (blk_below (g := gb127) (o := .cells #[.int .i64 0, .slice none 0 0] 25 (0, 0)) (by (with_reducible repeat (first | refine zN ?_ _ | refine zD ?_ | refine zA ?_ _)); exact BK127.out) hb); have n3_ := qM (blk_below (g := gb134) (o := .cells #[.int .i64 t130, u135001] 25 (0, 0)) (by (with_reducible repeat (first | refine zN ?_ _ | refine zD ?_ | refine zA ?_ _)); exact BK134.out) hb); have n4_ := qM (IsS63.below (by repeat (first | (with_reducible first | exact HI0.out | apply IsS63.alloc | apply IsS63.drewN | apply IsS63.drew | apply IsS63.set_1 | refine IsS63.far ?_ NB0_127.out _ | refine IsS63.far ?_ NB0_134.out _) | exact HI0.out)) hb); have n5_ := qM (KeepBut.trans (by repeat (first | (with_reducible first | exact HK.out | apply KeepBut.set_ | apply keep_drewN | apply keep_drew | apply keep_alloc | refine keep_far ?_ GW127.out _ | refine keep_far ?_ GW134.out _) | exact HK.out)) (KeepBut.of_below hb g none) (.inl rfl)); have n6_ := qM (below_step (by repeat (first | (with_reducible first | exact HB.out | apply yA | apply yN | apply yD | refine yS ?_ (IsS63.ge HI0.out) | refine yS ?_ GE127.out | refine yS ?_ GE134.out) | exact HB.out)) hb); clear HO_135001; clear BK127; clear BK134; clear HI0; clear HK; clear HB; have HO_135001 := n0_; have HO150 := n1_; have BK127 := n2_; have BK134 := n3_; have HI0 := n4_; have HK := n5_; have HB := n6_; clear n0_ n1_ n2_ n3_ n4_ n5_ n6_; clear hb ho38) | ((with_reducible refine gate_callee (f := 50) rfl ?_); refine goesL_ (some 38) rfl rfl Try.func50 (by kernel_rfl) rfl #[.pointer (some ⟨g, 0, none⟩), .int .i64 3] rfl (by (try simp only [List.map_toArray, List.map_cons, List.map_nil]); first | done | rfl | (simp only [List.length_drop, List.length_take]; rfl)) ?_; (with_reducible refine (spec_l30Rd_pick.calls kj13 g s0_0 t147 3 t151 t152 w0 _ ?side1 ?side2 A33.out).mono ?_); (case side1 => repeat (first | (with_reducible first | exact HI0.out | apply IsS63.alloc | apply IsS63.drewN | apply IsS63.drew | apply IsS63.set_1 | refine IsS63.far ?_ NB0_127.out _ | refine IsS63.far ?_ NB0_134.out _) | exact HI0.out)); (case side2 => repeat (first | (with_reducible first | exact HB.out | apply yA | apply yN | apply yD | refine yS ?_ (IsS63.ge HI0.out) | refine yS ?_ GE127.out | refine yS ?_ GE134.out) | exact HB.out)); rintro e w39 ⟨rfl, hi, hb, hk⟩; refine ⟨_, rfl, ?_⟩; have n0_ := qM (Kd.S_mono (Kd.S_keep (IsS63.apartS (show IsS63 w0 _ g s0_0 t147 from by repeat (first | (with_reducible first | exact HI0.out | apply IsS63.alloc | apply IsS63.drewN | apply IsS63.drew | apply IsS63.set_1 | refine IsS63.far ?_ NB0_127.out _ | refine IsS63.far ?_ NB0_134.out _) | exact HI0.out)) (by (with_reducible repeat (first | apply Kd.S_alloc | apply Kd.S_drewN | apply Kd.S_drew)); exact HO_135001.out) (by decide)) hk (fun _ h => h.2)) (fun _ h => h.1)); have n1_ := qM (KeepBut.blk hk (g' := gb127) (o := .cells #[.int .i64 0, .slice none 0 0] 25 (0, 0)) (by (with_reducible repeat (first | refine zN ?_ _ | refine zD ?_ | refine zA ?_ _)); exact BK127.out) NB127_0.out (by simp)); have n2_ := qM (KeepBut.blk hk (g' := gb134) (o := .cells #[.int .i64 t130, u135001] 25 (0, 0)) (by (with_reducible repeat (first | refine zN ?_ _ | refine zD ?_ | refine zA ?_ _)); exact BK134.out) NB134_0.out (by simp)); have n3_ := qM (Kd.R_mono (Kd.R_keep (IsS63.apart (show IsS63 w0 _ g s0_0 t147 from by repeat (first | (with_reducible first | exact HI0.out | apply IsS63.alloc | apply IsS63.drewN | apply IsS63.drew | apply IsS63.set_1 | refine IsS63.far ?_ NB0_127.out _ | refine IsS63.far ?_ NB0_134.out _) | exact HI0.out)) (by (with_reducible repeat (first | apply qA | apply qN | apply qD)); exact HO150.out) (by decide)) hk (fun _ h => h.2)) (fun _ h => h.1)); have n4_ := qM (KeepBut.trans (by repeat (first | (with_reducible first | exact HK.out | apply KeepBut.set_ | apply keep_drewN | apply keep_drew | apply keep_alloc | refine keep_far ?_ GW127.out _ | refine keep_far ?_ GW134.out _) | exact HK.out)) hk (.inl rfl)); have n5_ := qM (hb); have n6_ := qM (hi); clear HO_135001; clear BK127; clear BK134; clear HO150; clear HK; clear HB; clear HI0; have HO_135001 := n0_; have BK127 := n1_; have BK134 := n2_; have HO150 := n3_; have HK := n4_; have HB := n5_; have HI0 := n6_; clear n0_ n1_ n2_ n3_ n4_ n5_ n6_; (try clear hb); (try clear hb2); (try clear hk); (try clear hi); obtain ⟨Ao40, co40, eo40⟩ := Kd.R_slice HO150.out; subst eo40; have p153 : 0 ≤ (t151 : Int) := of_decide_eq_true (by first | (with_reducible assumption) | assumption); have q153 : t151 < (y148.length : Int) := of_decide_eq_true (by first | (with_reducible assumption) | assumption); obtain ⟨ad153, e153, hx153_0⟩ := Kd.at_int (qR HO150.out).2.2 t151 p153 q153; cases e153; replace p153 := eq_true p153; replace q153 := eq_true q153; have hnb41 := NB134_127.out; have hnc41 := NB127_134.out; have hnb42 := NB134_0.out; have hnc42 := NB0_134.out; have hcz43_0 : w39.cell? ⟨gb134, 0, none⟩ = some (.int .i64 t130) := (zC BK134.out 0).trans rfl; have hcz43_1 : w39.cell? ⟨gb134, 1, none⟩ = some (u135001) := (zC BK134.out 1).trans rfl; have hfz43_0 := zF BK134.out 0; have hfz43_1 := zF BK134.out 1; have hnb44 := NB127_0.out; have hnc44 := NB0_127.out; have hcz45_0 : w39.cell? ⟨gb127, 0, none⟩ = some (.int .i64 0) := (zC BK127.out 0).trans rfl; have hcz45_1 : w39.cell? ⟨gb127, 1, none⟩ = some (.slice none 0 0) := (zC BK127.out 1).trans rfl; have hfz45_0 := zF BK127.out 0; have hfz45_1 := zF BK127.out 1; obtain ⟨Ao46, co46, eo46⟩ := Kd.S_slice HO_135001.out; subst eo46))
         refine bodyPost_ret (results_cell_row rfl _ _ gb127 25 #[.int .i64 (rd y148 t151), .slice Ao46 x135001_1.length co46] (0, 0) _ rfl (by (with_reducible repeat (first | refine zN ?_ _ | refine zD ?_ | refine zA ?_ _)); refine blk_put (cs := #[.int .i64 (rd y148 t151), .slice none 0 0]) ?_ 1 _ rfl; (with_reducible repeat (first | refine zN ?_ _ | refine zD ?_ | refine zA ?_ _)); refine blk_put (cs := #[.int .i64 0, .slice none 0 0]) ?_ 0 _ rfl; (with_reducible repeat (first | refine zN ?_ _ | refine zD ?_ | refine zA ?_ _)); refine blk_far ?_ NB127_134.out _; (with_reducible repeat (first | refine zN ?_ _ | refine zD ?_ | refine zA ?_ _)); exact BK127.out) Try.underlying25 rfl (by kernel_rfl)) rfl ?_
         exact ⟨_, by first | rfl | (simp [errW_none, errW_some] <;> rfl) | (simp [*, errW_none, errW_some] <;> rfl), by (with_reducible repeat (first | apply Kd.S_alloc | apply Kd.S_drewN | apply Kd.S_drew)); exact Kd.S_mono (Kd.S_far (p := ⟨gb127, 1, none⟩) (Kd.S_far (p := ⟨gb127, 0, none⟩) (Kd.S_far (p := ⟨gb134, 0, none⟩) (Kd.S_types (Kd.S_types HO_135001.out BK134.out (by decide)) BK127.out (by decide)) (fun _ hk => hk.1.2) (.int .i64 (rd y148 t151))) (fun _ hk => hk.2) (.int .i64 (rd y148 t151))) (fun _ hk => hk.2) (.slice Ao46 x135001_1.length co46)) (fun _ hk => trivial), by repeat (first | (with_reducible first | exact HI0.out | apply IsS63.alloc | apply IsS63.drewN | apply IsS63.drew | apply IsS63.set_1 | refine IsS63.far ?_ NB0_127.out _ | refine IsS63.far ?_ NB0_134.out _) | exact HI0.out), by repeat (first | (with_reducible first | exact HB.out | apply yA | apply yN | apply yD | refine yS ?_ (IsS63.ge HI0.out) | refine yS ?_ GE127.out | refine yS ?_ GE134.out) | exact HB.out), by repeat (first | (with_reducible first | exact HK.out | apply KeepBut.set_ | apply keep_drewN | apply keep_drew | apply keep_alloc | refine keep_far ?_ GW127.out _ | refine keep_far ?_ GW134.out _) | exact HK.out)⟩
        ·rw [if_neg c35] at H
         exact absurd H (by simp)
       ·rw [if_neg c34] at H
        exact absurd H (by simp)
      ·rw [if_neg c32] at H
       have c32b0 : (t146 == 0) = false := beq_eq_false_iff_ne.mpr c32
       have c32b1 : (t146 != 0) = true := bne_iff_ne.mpr c32
       by_cases c47 : t146 = 1
       ·rw [if_pos c47] at H
        have c47b0 : (t146 == 1) = true := beq_iff_eq.mpr c47
        have c47b1 : (t146 != 1) = false := bne_eq_false_iff_eq.mpr c47
        clear c47
        replace H := Option.bind_eq_some_iff.mp H
        obtain ⟨⟨t154, t157⟩, A480, H⟩ := H
        replace H : (if x135001_1.length < 5864062014805 then (some (t130, (x135001_1 ++ [t154]), t157)) else (none)) = some (r1, r2, r3) := H
        have A48 := qM A480
        clear A480
        by_cases c49 : x135001_1.length < 5864062014805
        ·rw [if_pos c49] at H
         have LMc49 := qM c49
         clear c49
         obtain ⟨y158, hy158⟩ : ∃ y_ : List (List Int), y_ = (x135001_1 ++ [t154]) := ⟨_, rfl⟩
         replace H : (some (t130, y158, t157)) = some (r1, r2, r3) := by first | (rw [hy158]; with_reducible exact H) | (have H2_ := (Option.bind_some _ _).symm.trans H; rw [hy158]; with_reducible exact H2_) | (have H2_ := (Option.bind_some _ _).symm.trans H; with_reducible exact H2_) | with_reducible exact H | (rw [hy158]; exact H) | exact H
         have Ny158 := qM hy158
         clear hy158
         simp only [Option.some.injEq, Prod.mk.injEq] at H
         obtain ⟨rfl, rfl, rfl⟩ := H
         try go_wp2_with (first | ((with_reducible refine gate_callee (f := 50) rfl ?_); refine goesL_ (some 33) rfl rfl Try.func50 (by kernel_rfl) rfl #[.pointer (some ⟨g, 0, none⟩), .int .i64 16] rfl (by (try simp only [List.map_toArray, List.map_cons, List.map_nil]); first | done | rfl | (simp only [List.length_drop, List.length_take]; rfl)) ?_; (with_reducible refine (spec_l30Rd_pick.calls kj13 g s0_0 x1001_1 16 t146 t147 w0 _ ?side1 ?side2 A31.out).mono ?_); (case side1 => repeat (first | (with_reducible first | exact HI0.out | apply IsS63.alloc | apply IsS63.drewN | apply IsS63.drew | apply IsS63.set_1 | refine IsS63.far ?_ NB0_127.out _ | refine IsS63.far ?_ NB0_134.out _) | exact HI0.out)); (case side2 => repeat (first | (with_reducible first | exact HB.out | apply yA | apply yN | apply yD | refine yS ?_ (IsS63.ge HI0.out) | refine yS ?_ GE127.out | refine yS ?_ GE134.out) | exact HB.out)); rintro e w50 ⟨rfl, hi, hb, hk⟩; refine ⟨_, rfl, ?_⟩; have n0_ := qM (Kd.S_mono (Kd.S_keep (IsS63.apartS (show IsS63 w0 _ g s0_0 x1001_1 from by repeat (first | (with_reducible first | exact HI0.out | apply IsS63.alloc | apply IsS63.drewN | apply IsS63.drew | apply IsS63.set_1 | refine IsS63.far ?_ NB0_127.out _ | refine IsS63.far ?_ NB0_134.out _) | exact HI0.out)) (by (with_reducible repeat (first | apply Kd.S_alloc | apply Kd.S_drewN | apply Kd.S_drew)); exact HO_135001.out) (by decide)) hk (fun _ h => h.2)) (fun _ h => h.1)); have n1_ := qM (KeepBut.blk hk (g' := gb127) (o := .cells #[.int .i64 0, .slice none 0 0] 25 (0, 0)) (by (with_reducible repeat (first | refine zN ?_ _ | refine zD ?_ | refine zA ?_ _)); exact BK127.out) NB127_0.out (by simp)); have n2_ := qM (KeepBut.blk hk (g' := gb134) (o := .cells #[.int .i64 t130, u135001] 25 (0, 0)) (by (with_reducible repeat (first | refine zN ?_ _ | refine zD ?_ | refine zA ?_ _)); exact BK134.out) NB134_0.out (by simp)); have n3_ := qM (KeepBut.trans (by repeat (first | (with_reducible first | exact HK.out | apply KeepBut.set_ | apply keep_drewN | apply keep_drew | apply keep_alloc | refine keep_far ?_ GW127.out _ | refine keep_far ?_ GW134.out _) | exact HK.out)) hk (.inl rfl)); have n4_ := qM (hb); have n5_ := qM (hi); clear HO_135001; clear BK127; clear BK134; clear HK; clear HB; clear HI0; have HO_135001 := n0_; have BK127 := n1_; have BK134 := n2_; have HK := n3_; have HB := n4_; have HI0 := n5_; clear n0_ n1_ n2_ n3_ n4_ n5_; (try clear hb); (try clear hb2); (try clear hk); (try clear hi)))
         have n0_ := qM (Kd.S_drew HO_135001.out)
         have n1_ := qM (zD BK127.out)
         have n2_ := qM (zD BK134.out)
         have n3_ := qM (IsS63.drew HI0.out)
         have n4_ := qM (keep_drew HK.out)
         have n5_ := qM (yD HB.out)
         clear HO_135001
         clear BK127
         clear BK134
         clear HI0
         clear HK
         clear HB
         have HO_135001 := n0_
         have BK127 := n1_
         have BK134 := n2_
         have HI0 := n3_
         have HK := n4_
         have HB := n5_
         clear n0_ n1_ n2_ n3_ n4_ n5_
         refine start_ (n := 8) (S := fun w' => w'.cell? ⟨gb134, 0, none⟩ = some (.int .i64 t130) ∧ w'.cell? ⟨gb134, 1, none⟩ = some (u135001)) (ds := [7]) #[false, false, false, false, false, false, false, false] (by kernel_rfl) rfl rfl ⟨(zC BK134.out 0).trans rfl, (zC BK134.out 1).trans rfl⟩ (fun hHeld => ?_); refine with_tabW spec_l31Box.tab10 spec_l31Box.bits10 (fun HT_ HW_ => ?_)
         generalize w50.drew = w51 at HO_135001 BK127 BK134 HI0 HK HB hHeld ⊢
         refine pure_ (i := 0) (N := some 44) (v := ?_) (a' := ?_) #[true, false, false, false, false, false, false, false] rfl rfl (any_of HT_.out (by kernel_rfl)) (fun _ _ _ h => h) (Or.inl ⟨by rfl, ?_⟩) ?_ ?_
         rotate_left
         ·intro w'
          go_simp
          with_reducible rfl
         rotate_left
         ·simp only [Act.put, List.setIfInBounds_toArray, List.set_cons_zero, List.set_cons_succ, i64_w, i32_w]
          rfl
         refine pure_ (i := 2) (N := some 46) (v := ?_) (a' := ?_) #[true, false, true, false, false, false, false, false] rfl rfl (any_of HT_.out (by kernel_rfl)) (fun _ _ _ h => h) (Or.inl ⟨by rfl, ?_⟩) ?_ ?_
         rotate_left
         ·intro w'
          go_simp
          with_reducible rfl
         rotate_left
         ·simp only [Act.put, List.setIfInBounds_toArray, List.set_cons_zero, List.set_cons_succ, i64_w, i32_w]
          rfl
         refine take_ (i := 1) (N := some 45) (v := ?_) (a' := ?_) #[true, true, true, false, false, false, false, false] rfl rfl (take_ofW HT_.out HW_.out (by kernel_rfl)) (fun _ _ _ h => h) (Or.inl ⟨by rfl, ?_⟩) hHeld ?_ ?_
         rotate_left
         ·rintro w' ⟨s0, s1⟩
          go_simp
          with_reducible rfl
         rotate_left
         ·simp only [Act.put, List.setIfInBounds_toArray, List.set_cons_zero, List.set_cons_succ, i64_w, i32_w]
          rfl
         refine one_ (i := 3) (N := some 47) #[true, true, true, true, false, false, false, false] rfl rfl (one_of HT_.out (by kernel_rfl)) (by decide) (fun K hK => ?_)
         refine goes_ Try.func51 (by kernel_rfl) rfl #[.pointer (some ⟨g, 0, none⟩), .int .i64 9] (by rfl) rfl rfl (by (try simp only [List.map_toArray, List.map_cons, List.map_nil]); first | done | rfl | (simp only [List.length_drop, List.length_take]; rfl)) ?_
         with_reducible refine (spec_l30Bytes.calls kj13 g s0_0 t147 9 t154 t157 w0 _ ?side1 ?side2 A48.out).mono ?_
         (case side1 => repeat (first | (with_reducible first | exact HI0.out | apply IsS63.alloc | apply IsS63.drewN | apply IsS63.drew | apply IsS63.set_1 | refine IsS63.far ?_ NB0_127.out _ | refine IsS63.far ?_ NB0_134.out _) | exact HI0.out))
         (case side2 => repeat (first | (with_reducible first | exact HB.out | apply yA | apply yN | apply yD | refine yS ?_ (IsS63.ge HI0.out) | refine yS ?_ GE127.out | refine yS ?_ GE134.out) | exact HB.out))
         rintro e w52 ⟨v155, rfl, ho0, hi, hb, hk⟩
         refine ⟨_, rfl, ?_⟩
         have n0_ := qM (Kd.S_mono (Kd.S_told (Kd.S_oldK (IsS63.apartS (show IsS63 w0 _ g s0_0 t147 from by repeat (first | (with_reducible first | exact HI0.out | apply IsS63.alloc | apply IsS63.drewN | apply IsS63.drew | apply IsS63.set_1 | refine IsS63.far ?_ NB0_127.out _ | refine IsS63.far ?_ NB0_134.out _) | exact HI0.out)) (by (with_reducible repeat (first | apply Kd.S_alloc | apply Kd.S_drewN | apply Kd.S_drew)); exact HO_135001.out) (by decide)) hk) (Kd.R_base ho0)) (fun _ h_ => h_.1))
         have n1_ := qM (KeepBut.blk hk (g' := gb127) (o := .cells #[.int .i64 0, .slice none 0 0] 25 (0, 0)) (by (with_reducible repeat (first | refine zN ?_ _ | refine zD ?_ | refine zA ?_ _)); exact BK127.out) NB127_0.out (by simp))
         have n2_ := qM (KeepBut.blk hk (g' := gb134) (o := .cells #[.int .i64 t130, u135001] 25 (0, 0)) (by (with_reducible repeat (first | refine zN ?_ _ | refine zD ?_ | refine zA ?_ _)); exact BK134.out) NB134_0.out (by simp))
         have n3_ := qM (Kd.R_lower ho0 (keep_size (w := w) (g := g) (row := none) (by repeat (first | (with_reducible first | exact HK.out | apply KeepBut.set_ | apply keep_drewN | apply keep_drew | apply keep_alloc | refine keep_far ?_ GW127.out _ | refine keep_far ?_ GW134.out _) | exact HK.out))))
         have n4_ := qM (KeepBut.trans (by repeat (first | (with_reducible first | exact HK.out | apply KeepBut.set_ | apply keep_drewN | apply keep_drew | apply keep_alloc | refine keep_far ?_ GW127.out _ | refine keep_far ?_ GW134.out _) | exact HK.out)) hk (.inl rfl))
         have n5_ := qM (hb)
         have n6_ := qM (hi)
         clear HO_135001
         clear BK127
         clear BK134
         clear HK
         clear HB
         clear HI0
         have HO_135001 := n0_
         have BK127 := n1_
         have BK134 := n2_
         have HO156 := n3_
         have HK := n4_
         have HB := n5_
         have HI0 := n6_
         clear n0_ n1_ n2_ n3_ n4_ n5_ n6_
         (try clear hb)
         (try clear hb2)
         (try clear hk)
         (try clear hi)
         (try clear ho0)
         obtain ⟨Ao54, co54, eo54⟩ := Kd.R_slice HO156.out
         (first | subst eo54 | (injection eo54 with f1_ f2_ f3_; have f4_ := f1_.symm; have f5_ := f3_.symm; clear f1_ f2_ f3_; subst f4_; subst f5_))
         refine hK.out _ _ ⟨(zC BK134.out 0).trans rfl, (zC BK134.out 1).trans rfl⟩ (fun hHeld => ?_)
         clear hK K
         refine norm_ (a' := ?_) ?_ ?_
         rotate_left
         ·show Act.put _ (some 47) _ = _
          simp only [Act.put, List.setIfInBounds_toArray, List.set_cons_zero, List.set_cons_succ, i64_w, i32_w]
          rfl
         refine one_ (i := 4) (N := some 48) #[true, true, true, true, true, false, false, false] rfl rfl (one_of HT_.out (by kernel_rfl)) (by decide) (fun K hK => ?_)
         refine value_ (w1 := ?_) (v := ?_) (by rfl) rfl ?_ ?_
         rotate_left 2
         ·go_simp
          constructor
          ·rfl
          ·rfl
         refine hK.out _ _ ⟨(zC (zA BK134.out _) 0).trans rfl, (zC (zA BK134.out _) 1).trans rfl⟩ (fun hHeld => ?_)
         clear hK K
         refine norm_ (a' := ?_) ?_ ?_
         rotate_left
         ·show Act.put _ (some 48) _ = _
          simp only [Act.put, List.setIfInBounds_toArray, List.set_cons_zero, List.set_cons_succ, i64_w, i32_w]
          rfl
         refine one_ (i := 5) (N := some 49) #[true, true, true, true, true, true, false, false] rfl rfl (one_of HT_.out (by kernel_rfl)) (by decide) (fun K hK => ?_)
         refine Kd.S_append_step (Kd.slice 5 (Kd.int .u8)) w.heap.size (by rfl) (.tmp 45) (.tmp 48) 23 22 (.slice none 0 0) 24 rfl Try.underlying23 info22 rfl (by decide) (by omega) u135001 x135001_1 t154 [.slice Ao54 t154.length co54] (fun _ => True) (fun k_ => some k_ = (.slice Ao54 t154.length co54 : Value).ownBlock) rfl rfl ?aP (fun k_ hk_ => ((Kd.R_mono (ok' := fun k_ => ((fun _ => True)) k_ ∧ some k_ ≠ (u135001 : Value).ownBlock) (Kd.R_apart' (HO156.out) (Kd.S_typed HO_135001.out) (by decide)) (fun k_ hk => ⟨trivial, hk.2⟩))).1 k_ hk_.symm) ?aF ?aO (Below.refl _ _) ?aS ?aL ?_
         (case aP => exact Kd.M_row (Kd.R_mono (Kd.R_tight rfl (Kd.R_mono (ok' := fun k_ => ((fun _ => True)) k_ ∧ some k_ ≠ (u135001 : Value).ownBlock) (Kd.R_apart' (HO156.out) (Kd.S_typed HO_135001.out) (by decide)) (fun k_ hk => ⟨trivial, hk.2⟩))) (fun _ h_ => h_)))
         (case aF => exact (fun _ _ => trivial))
         (case aO => exact (by (with_reducible repeat (first | apply Kd.S_alloc | apply Kd.S_drewN | apply Kd.S_drew)); exact Kd.S_mono HO_135001.out (fun k_ hk => ⟨trivial, fun e_ => hk.2 e_⟩)))
         (case aS => exact (keep_size (w := w) (g := g) (row := none) (by repeat (first | (with_reducible first | exact HK.out | apply KeepBut.set_ | apply keep_drewN | apply keep_drew | apply keep_alloc | refine keep_far ?_ GW127.out _ | refine keep_far ?_ GW134.out _) | exact HK.out))))
         (case aL => have := LMc49.out; omega)
         intro v159 w53 ho hb hg hat
         rw [← Ny158.out] at ho
         have n0_ := qM (blk_grown (g := gb127) (o := .cells #[.int .i64 0, .slice none 0 0] 25 (0, 0)) (by (with_reducible repeat (first | refine zN ?_ _ | refine zD ?_ | refine zA ?_ _)); exact BK127.out) hg (Kd.S_ne HO_135001.out BK127.out (by decide)))
         have n1_ := qM (blk_grown (g := gb134) (o := .cells #[.int .i64 t130, u135001] 25 (0, 0)) (by (with_reducible repeat (first | refine zN ?_ _ | refine zD ?_ | refine zA ?_ _)); exact BK134.out) hg (Kd.S_ne HO_135001.out BK134.out (by decide)))
         have n2_ := qM (IsS63.grown (by repeat (first | (with_reducible first | exact HI0.out | apply IsS63.alloc | apply IsS63.drewN | apply IsS63.drew | apply IsS63.set_1 | refine IsS63.far ?_ NB0_127.out _ | refine IsS63.far ?_ NB0_134.out _) | exact HI0.out)) hg (IsS63.own_neS HI0.out HO_135001.out (by decide)))
         have n3_ := qM (below_weaken (by repeat (first | (with_reducible first | exact HB.out | apply yA | apply yN | apply yD | refine yS ?_ (IsS63.ge HI0.out) | refine yS ?_ GE127.out | refine yS ?_ GE134.out) | exact HB.out)) HL.out hb)
         have n4_ := qM (KeepBut.trans (by repeat (first | (with_reducible first | exact HK.out | apply KeepBut.set_ | apply keep_drewN | apply keep_drew | apply keep_alloc | refine keep_far ?_ GW127.out _ | refine keep_far ?_ GW134.out _) | exact HK.out)) (KeepBut.of_grown hg g) (Kd.S_base2 HO_135001.out))
         have n5_ := qM (ho)
         clear BK127
         clear BK134
         clear HI0
         clear HB
         clear HK
         clear HO_135001
         clear HO156
         have BK127 := n0_
         have BK134 := n1_
         have HI0 := n2_
         have HB := n3_
         have HK := n4_
         have HO160 := n5_
         clear n0_ n1_ n2_ n3_ n4_ n5_
         clear ho hb hg hat
         obtain ⟨Ao55, co55, eo55⟩ := Kd.S_slice HO160.out
         (first | subst eo55 | (injection eo55 with f1_ f2_ f3_; have f4_ := f1_.symm; have f5_ := f3_.symm; clear f1_ f2_ f3_; subst f4_; subst f5_))
         refine hK.out _ _ ⟨(zC BK134.out 0).trans rfl, (zC BK134.out 1).trans rfl⟩ (fun hHeld => ?_)
         clear hK K
         refine norm_ (a' := ?_) ?_ ?_
         rotate_left
         ·show Act.put _ (some 49) _ = _
          simp only [Act.put, List.setIfInBounds_toArray, List.set_cons_zero, List.set_cons_succ, i64_w, i32_w]
          rfl
         refine pure_ (i := 6) (N := some 50) (v := ?_) (a' := ?_) #[true, true, true, true, true, true, true, false] rfl rfl (any_of HT_.out (by kernel_rfl)) (fun _ _ _ h => h) (Or.inl ⟨by rfl, ?_⟩) ?_ ?_
         rotate_left
         ·intro w'
          go_simp
          with_reducible rfl
         rotate_left
         ·simp only [Act.put, List.setIfInBounds_toArray, List.set_cons_zero, List.set_cons_succ, i64_w, i32_w]
          rfl
         refine last_ (i := 7) (N := none) #[true, true, true, true, true, true, true, true] rfl rfl (one_of HT_.out (by kernel_rfl)) (by decide) (fun K hK => ?_)
         have hs56 : w53.cell? ⟨gb134, 1, none⟩ = some (u135001) := (zC BK134.out 1).trans rfl
         have hfs56 := zF BK134.out 1
         have hns56_0 := NB127_134.out
         have hms56_0 := NB134_127.out
         refine skip_ (w1 := ?_) (by rfl) rfl ?_ ?_
         rotate_left
         ·go_simp
          rfl
         refine hK.out _ _ ?_
         clear hK K
         refine done_ (done_of HT_.out (by kernel_rfl)) ?_
         have hnb57 := NB134_127.out
         have hnc57 := NB127_134.out
         have hnb58 := NB134_0.out
         have hnc58 := NB0_134.out
         have hcz59_0 : w53.cell? ⟨gb134, 0, none⟩ = some (.int .i64 t130) := (zC BK134.out 0).trans rfl
         have hcz59_1 : w53.cell? ⟨gb134, 1, none⟩ = some (u135001) := (zC BK134.out 1).trans rfl
         have hfz59_0 := zF BK134.out 0
         have hfz59_1 := zF BK134.out 1
         have hnb60 := NB127_0.out
         have hnc60 := NB0_127.out
         have hcz61_0 : w53.cell? ⟨gb127, 0, none⟩ = some (.int .i64 0) := (zC BK127.out 0).trans rfl
         have hcz61_1 : w53.cell? ⟨gb127, 1, none⟩ = some (.slice none 0 0) := (zC BK127.out 1).trans rfl
         have hfz61_0 := zF BK127.out 0
         have hfz61_1 := zF BK127.out 1
         try go_wp2
         refine bodyPost_ret (results_cell_row rfl _ _ gb127 25 #[.int .i64 t130, .slice Ao55 y158.length co55] (0, 0) _ rfl (by (with_reducible repeat (first | refine zN ?_ _ | refine zD ?_ | refine zA ?_ _)); refine blk_put (cs := #[.int .i64 t130, .slice none 0 0]) ?_ 1 _ rfl; (with_reducible repeat (first | refine zN ?_ _ | refine zD ?_ | refine zA ?_ _)); refine blk_put (cs := #[.int .i64 0, .slice none 0 0]) ?_ 0 _ rfl; (with_reducible repeat (first | refine zN ?_ _ | refine zD ?_ | refine zA ?_ _)); refine blk_far ?_ NB127_134.out _; (with_reducible repeat (first | refine zN ?_ _ | refine zD ?_ | refine zA ?_ _)); exact BK127.out) Try.underlying25 rfl (by kernel_rfl)) rfl ?_
         exact ⟨_, by first | rfl | (simp [errW_none, errW_some] <;> rfl) | (simp [*, errW_none, errW_some] <;> rfl), by (with_reducible repeat (first | apply Kd.S_alloc | apply Kd.S_drewN | apply Kd.S_drew)); exact Kd.S_mono (Kd.S_far (p := ⟨gb127, 1, none⟩) (Kd.S_far (p := ⟨gb127, 0, none⟩) (Kd.S_far (p := ⟨gb134, 1, none⟩) (Kd.S_types (Kd.S_types HO160.out BK134.out (by decide)) BK127.out (by decide)) (fun _ hk => hk.1.2) (.slice Ao55 y158.length co55)) (fun _ hk => hk.2) (.int .i64 t130)) (fun _ hk => hk.2) (.slice Ao55 y158.length co55)) (fun _ hk => trivial), by repeat (first | (with_reducible first | exact HI0.out | apply IsS63.alloc | apply IsS63.drewN | apply IsS63.drew | apply IsS63.set_1 | refine IsS63.far ?_ NB0_127.out _ | refine IsS63.far ?_ NB0_134.out _) | exact HI0.out), by repeat (first | (with_reducible first | exact HB.out | apply yA | apply yN | apply yD | refine yS ?_ (IsS63.ge HI0.out) | refine yS ?_ GE127.out | refine yS ?_ GE134.out) | exact HB.out), by repeat (first | (with_reducible first | exact HK.out | apply KeepBut.set_ | apply keep_drewN | apply keep_drew | apply keep_alloc | refine keep_far ?_ GW127.out _ | refine keep_far ?_ GW134.out _) | exact HK.out)⟩
        ·rw [if_neg c49] at H
         exact absurd H (by simp)
       ·rw [if_neg c47] at H
        have c47b0 : (t146 == 1) = false := beq_eq_false_iff_ne.mpr c47
        have c47b1 : (t146 != 1) = true := bne_iff_ne.mpr c47
        by_cases c62 : t146 = 2
        ·rw [if_pos c62] at H
         have c62b0 : (t146 == 2) = true := beq_iff_eq.mpr c62
         have c62b1 : (t146 != 2) = false := bne_eq_false_iff_eq.mpr c62
         clear c62
         have H' := qM H
         clear H
         go_wp2_with (first | ((with_reducible refine gate_callee (f := 50) rfl ?_); refine goesL_ (some 33) rfl rfl Try.func50 (by kernel_rfl) rfl #[.pointer (some ⟨g, 0, none⟩), .int .i64 16] rfl (by (try simp only [List.map_toArray, List.map_cons, List.map_nil]); first | done | rfl | (simp only [List.length_drop, List.length_take]; rfl)) ?_; (with_reducible refine (spec_l30Rd_pick.calls kj13 g s0_0 x1001_1 16 t146 t147 w0 _ ?side1 ?side2 A31.out).mono ?_); (case side1 => repeat (first | (with_reducible first | exact HI0.out | apply IsS63.alloc | apply IsS63.drewN | apply IsS63.drew | apply IsS63.set_1 | refine IsS63.far ?_ NB0_127.out _ | refine IsS63.far ?_ NB0_134.out _) | exact HI0.out)); (case side2 => repeat (first | (with_reducible first | exact HB.out | apply yA | apply yN | apply yD | refine yS ?_ (IsS63.ge HI0.out) | refine yS ?_ GE127.out | refine yS ?_ GE134.out) | exact HB.out)); rintro e w63 ⟨rfl, hi, hb, hk⟩; refine ⟨_, rfl, ?_⟩; have n0_ := qM (Kd.S_mono (Kd.S_keep (IsS63.apartS (show IsS63 w0 _ g s0_0 x1001_1 from by repeat (first | (with_reducible first | exact HI0.out | apply IsS63.alloc | apply IsS63.drewN | apply IsS63.drew | apply IsS63.set_1 | refine IsS63.far ?_ NB0_127.out _ | refine IsS63.far ?_ NB0_134.out _) | exact HI0.out)) (by (with_reducible repeat (first | apply Kd.S_alloc | apply Kd.S_drewN | apply Kd.S_drew)); exact HO_135001.out) (by decide)) hk (fun _ h => h.2)) (fun _ h => h.1)); have n1_ := qM (KeepBut.blk hk (g' := gb127) (o := .cells #[.int .i64 0, .slice none 0 0] 25 (0, 0)) (by (with_reducible repeat (first | refine zN ?_ _ | refine zD ?_ | refine zA ?_ _)); exact BK127.out) NB127_0.out (by simp)); have n2_ := qM (KeepBut.blk hk (g' := gb134) (o := .cells #[.int .i64 t130, u135001] 25 (0, 0)) (by (with_reducible repeat (first | refine zN ?_ _ | refine zD ?_ | refine zA ?_ _)); exact BK134.out) NB134_0.out (by simp)); have n3_ := qM (KeepBut.trans (by repeat (first | (with_reducible first | exact HK.out | apply KeepBut.set_ | apply keep_drewN | apply keep_drew | apply keep_alloc | refine keep_far ?_ GW127.out _ | refine keep_far ?_ GW134.out _) | exact HK.out)) hk (.inl rfl)); have n4_ := qM (hb); have n5_ := qM (hi); clear HO_135001; clear BK127; clear BK134; clear HK; clear HB; clear HI0; have HO_135001 := n0_; have BK127 := n1_; have BK134 := n2_; have HK := n3_; have HB := n4_; have HI0 := n5_; clear n0_ n1_ n2_ n3_ n4_ n5_; (try clear hb); (try clear hb2); (try clear hk); (try clear hi)))
         go_loopg [] kj13 (fun kq w' => ∃ (x135001_3 : List (List Int)) (u135001 : Value), Aside0 (spec_l31Box.l1 kq s0_0 t147 t130 x135001_3 = some (r1, r2, r3)) ∧ Aside0 (kq ≤ kj13) ∧ Aside0 (Kd.S (Kd.slice 5 (Kd.int .u8)) 22 w' w.heap.size (fun _ => True) u135001 x135001_3) ∧ Aside0 (w'.heap[gb127]? = some (.cells #[.int .i64 0, (.slice none 0 0)] 25 (0, 0))) ∧ Aside0 (w'.heap[gb134]? = some (.cells #[.int .i64 t130, u135001] 25 (0, 0))) ∧ Aside0 (IsS63 w0 w' g s0_0 t147) ∧ Aside0 (KeepBut w w' g none) ∧ Aside0 (Below w0.heap.size w0 w'))
         case atStart => exact ⟨(x135001_1), (u135001), H', ⟨Nat.le_refl _⟩, ⟨by (with_reducible repeat (first | apply Kd.S_alloc | apply Kd.S_drewN | apply Kd.S_drew)); exact HO_135001.out⟩, ⟨by (with_reducible repeat (first | refine zN ?_ _ | refine zD ?_ | refine zA ?_ _)); exact BK127.out⟩, ⟨by (with_reducible repeat (first | refine zN ?_ _ | refine zD ?_ | refine zA ?_ _)); exact BK134.out⟩, ⟨by repeat (first | (with_reducible first | exact HI0.out | apply IsS63.alloc | apply IsS63.drewN | apply IsS63.drew | apply IsS63.set_1 | refine IsS63.far ?_ NB0_127.out _ | refine IsS63.far ?_ NB0_134.out _) | exact HI0.out)⟩, ⟨by repeat (first | (with_reducible first | exact HK.out | apply KeepBut.set_ | apply keep_drewN | apply keep_drew | apply keep_alloc | refine keep_far ?_ GW127.out _ | refine keep_far ?_ GW134.out _) | exact HK.out)⟩, ⟨by repeat (first | (with_reducible first | exact HB.out | apply yA | apply yN | apply yD | refine yS ?_ (IsS63.ge HI0.out) | refine yS ?_ GE127.out | refine yS ?_ GE134.out) | exact HB.out)⟩⟩
         case round =>
          clear H'
          try clear c1
          try clear p1
          try clear q1
          try clear hx1
          try clear c2
          try clear p2
          try clear c3
          try clear c4
          try clear c5
          try clear c6
          try clear p6
          try clear c9
          try clear c10
          try clear c15
          try clear c15b0
          try clear p15
          try clear q15
          try clear hx15
          try clear c16
          try clear c17
          try clear c20
          try clear c23
          try clear c32
          try clear c32b0
          try clear c32b1
          try clear c34
          try clear c34b0
          try clear c35
          try clear c35b0
          try clear c40
          try clear c41
          try clear c42
          try clear c44
          try clear c47
          try clear c47b0
          try clear c47b1
          try clear c49
          try clear c50
          try clear c51
          try clear c57
          try clear c58
          try clear c60
          try clear c62
          try clear c62b0
          try clear c62b1
          try clear hcz11_0
          try clear hcz11_1
          try clear hcz18_0
          try clear hcz18_1
          try clear hcz43_0
          try clear hcz43_1
          try clear hcz45_0
          try clear hcz45_1
          try clear hcz59_0
          try clear hcz59_1
          try clear hcz61_0
          try clear hcz61_1
          try clear hfz11_0
          try clear hfz11_1
          try clear hfz18_0
          try clear hfz18_1
          try clear hfz43_0
          try clear hfz43_1
          try clear hfz45_0
          try clear hfz45_1
          try clear hfz59_0
          try clear hfz59_1
          try clear hfz61_0
          try clear hfz61_1
          try clear hx153_0
          try clear p153
          try clear p2
          try clear p6
          try clear q153
          obtain ⟨x135001_3, u135001, HA, HK3, HO_135001, BK127, BK134, HI0, HK, HB⟩ := hrel
          cases gk with
          | zero => exact absurd HA.out (by simp [spec_l31Box.l1])
          | succ k3 =>
           have H := HA.out
           clear HA
           simp only [spec_l31Box.l1] at H
           by_cases c64 : (x135001_3.length : Int) ≤ t130
           ·rw [if_pos c64] at H
            have c64b0 : decide ((x135001_3.length : Int) ≤ t130) = true := decide_eq_true c64
            clear c64
            obtain ⟨y161, hy161⟩ : ∃ y_ : List Int, y_ = (([] : List Int)) := ⟨_, rfl⟩
            replace H : (if x135001_3.length < 5864062014805 then (spec_l31Box.l1 k3 s0_0 t147 t130 (x135001_3 ++ [y161])) else (none)) = some (r1, r2, r3) := by first | (rw [hy161]; with_reducible exact H) | (have H2_ := (Option.bind_some _ _).symm.trans H; rw [hy161]; with_reducible exact H2_) | (have H2_ := (Option.bind_some _ _).symm.trans H; with_reducible exact H2_) | with_reducible exact H | (rw [hy161]; exact H) | exact H
            have Ny161 := qM hy161
            clear hy161
            by_cases c65 : x135001_3.length < 5864062014805
            ·rw [if_pos c65] at H
             have LMc65 := qM c65
             clear c65
             obtain ⟨y164, hy164⟩ : ∃ y_ : List (List Int), y_ = (x135001_3 ++ [y161]) := ⟨_, rfl⟩
             replace H : (spec_l31Box.l1 k3 s0_0 t147 t130 y164) = some (r1, r2, r3) := by first | (rw [hy164]; with_reducible exact H) | (have H2_ := (Option.bind_some _ _).symm.trans H; rw [hy164]; with_reducible exact H2_) | (have H2_ := (Option.bind_some _ _).symm.trans H; with_reducible exact H2_) | with_reducible exact H | (rw [hy164]; exact H) | exact H
             have Ny164 := qM hy164
             clear hy164
             have H' := qM H
             clear H
             have hnb66 := NB134_127.out
             have hnc66 := NB127_134.out
             have hnb67 := NB134_0.out
             have hnc67 := NB0_134.out
             have hcz68_0 : wr.cell? ⟨gb134, 0, none⟩ = some (.int .i64 t130) := (zC BK134.out 0).trans rfl
             have hcz68_1 : wr.cell? ⟨gb134, 1, none⟩ = some (u135001) := (zC BK134.out 1).trans rfl
             have hfz68_0 := zF BK134.out 0
             have hfz68_1 := zF BK134.out 1
             obtain ⟨Ao69, co69, eo69⟩ := Kd.S_slice HO_135001.out
             subst eo69
             go_wp2_with (first | ((with_reducible refine gate_dst (N := 61) rfl ?_); (try (refine gate_guard (by rfl) ?_; dsimp only)); refine Kd.R_lit (Kd.int .u8) _ 5 ?hg (N := 61) ?hd (xs := ([] : List Int)) (inner := []) (ok := fun _ => True) (okp := fun _ => True) ?hr ?hp (fun _ hk => hk) trivial (Below.refl _ _) (Nat.le_refl _) (by simp) ?_; (case hd => rfl); (case hg => rfl); (case hr => first | (go_simp; done) | (go_simp; rfl)); (case hp => exact (Reps.none _ _)); intro v162 w70 ho71 hb hg_ hnew_; clear hg_ hnew_; (first | rw [← Ny161.out] at ho71 | (simp only [Int.reduceToNat] at ho71; rw [← Ny161.out] at ho71)); have n0_ := qM (Kd.S_elder' (by (with_reducible repeat (first | apply Kd.S_alloc | apply Kd.S_drewN | apply Kd.S_drew)); exact HO_135001.out) (Kd.R_base ho71) hb); have n1_ := qM (Kd.R_lower ho71 (keep_size (w := w) (g := g) (row := none) (by repeat (first | (with_reducible first | exact HK.out | apply KeepBut.set_ | apply keep_drewN | apply keep_drew | apply keep_alloc | refine keep_far ?_ GW127.out _ | refine keep_far ?_ GW134.out _) | exact HK.out)))); have n2_ := qM (blk_below (g := gb127) (o := .cells #[.int .i64 0, .slice none 0 0] 25 (0, 0)) (by (with_reducible repeat (first | refine zN ?_ _ | refine zD ?_ | refine zA ?_ _)); exact BK127.out) hb); have n3_ := qM (blk_below (g := gb134) (o := .cells #[.int .i64 t130, .slice Ao69 x135001_3.length co69] 25 (0, 0)) (by (with_reducible repeat (first | refine zN ?_ _ | refine zD ?_ | refine zA ?_ _)); exact BK134.out) hb); have n4_ := qM (IsS63.below (by repeat (first | (with_reducible first | exact HI0.out | apply IsS63.alloc | apply IsS63.drewN | apply IsS63.drew | apply IsS63.set_1 | refine IsS63.far ?_ NB0_127.out _ | refine IsS63.far ?_ NB0_134.out _) | exact HI0.out)) hb); have n5_ := qM (KeepBut.trans (by repeat (first | (with_reducible first | exact HK.out | apply KeepBut.set_ | apply keep_drewN | apply keep_drew | apply keep_alloc | refine keep_far ?_ GW127.out _ | refine keep_far ?_ GW134.out _) | exact HK.out)) (KeepBut.of_below hb g none) (.inl rfl)); have n6_ := qM (below_step (by repeat (first | (with_reducible first | exact HB.out | apply yA | apply yN | apply yD | refine yS ?_ (IsS63.ge HI0.out) | refine yS ?_ GE127.out | refine yS ?_ GE134.out) | exact HB.out)) hb); clear HO_135001; clear BK127; clear BK134; clear HI0; clear HK; clear HB; have HO_135001 := n0_; have HO163 := n1_; have BK127 := n2_; have BK134 := n3_; have HI0 := n4_; have HK := n5_; have HB := n6_; clear n0_ n1_ n2_ n3_ n4_ n5_ n6_; clear hb ho71; obtain ⟨Ao73, co73, eo73⟩ := Kd.R_slice HO163.out; subst eo73) | ((with_reducible refine gate_builtin (b := .append) (xs := #[.tmp 60, .tmp 62]) rfl ?_); (try (refine gate_guard (by rfl) ?_; dsimp only)); at_builtin; refine Kd.S_append (Kd.slice 5 (Kd.int .u8)) w.heap.size rfl (.tmp 60) (.tmp 62) 23 22 (.slice none 0 0) 24 rfl Try.underlying23 info22 rfl (by decide) (by omega) (.slice Ao69 x135001_3.length co69) x135001_3 y161 [.slice Ao73 y161.length co73] (fun _ => True) (fun k_ => some k_ = (.slice Ao73 y161.length co73 : Value).ownBlock) rfl rfl ?aP (fun k_ hk_ => ((Kd.R_mono (ok' := fun k_ => ((fun _ => True)) k_ ∧ some k_ ≠ (.slice Ao69 x135001_3.length co69 : Value).ownBlock) (Kd.R_apart' (HO163.out) (Kd.S_typed HO_135001.out) (by decide)) (fun k_ hk => ⟨trivial, hk.2⟩))).1 k_ hk_.symm) ?aF ?aO (Below.refl _ _) ?aS ?aL ?_; (case aP => exact Kd.M_row (Kd.R_mono (Kd.R_tight rfl (Kd.R_mono (ok' := fun k_ => ((fun _ => True)) k_ ∧ some k_ ≠ (.slice Ao69 x135001_3.length co69 : Value).ownBlock) (Kd.R_apart' (HO163.out) (Kd.S_typed HO_135001.out) (by decide)) (fun k_ hk => ⟨trivial, hk.2⟩))) (fun _ h_ => h_))); (case aF => exact (fun _ _ => trivial)); (case aO => exact (by (with_reducible repeat (first | apply Kd.S_alloc | apply Kd.S_drewN | apply Kd.S_drew)); exact Kd.S_mono HO_135001.out (fun k_ hk => ⟨trivial, fun e_ => hk.2 e_⟩))); (case aS => exact (keep_size (w := w) (g := g) (row := none) (by repeat (first | (with_reducible first | exact HK.out | apply KeepBut.set_ | apply keep_drewN | apply keep_drew | apply keep_alloc | refine keep_far ?_ GW127.out _ | refine keep_far ?_ GW134.out _) | exact HK.out)))); (case aL => have := LMc65.out; omega); intro v165 w72 ho hb hg hat; rw [← Ny164.out] at ho; have n0_ := qM (blk_grown (g := gb127) (o := .cells #[.int .i64 0, .slice none 0 0] 25 (0, 0)) (by (with_reducible repeat (first | refine zN ?_ _ | refine zD ?_ | refine zA ?_ _)); exact BK127.out) hg (Kd.S_ne HO_135001.out BK127.out (by decide))); have n1_ := qM (blk_grown (g := gb134) (o := .cells #[.int .i64 t130, .slice Ao69 x135001_3.length co69] 25 (0, 0)) (by (with_reducible repeat (first | refine zN ?_ _ | refine zD ?_ | refine zA ?_ _)); exact BK134.out) hg (Kd.S_ne HO_135001.out BK134.out (by decide))); have n2_ := qM (IsS63.grown (by repeat (first | (with_reducible first | exact HI0.out | apply IsS63.alloc | apply IsS63.drewN | apply IsS63.drew | apply IsS63.set_1 | refine IsS63.far ?_ NB0_127.out _ | refine IsS63.far ?_ NB0_134.out _) | exact HI0.out)) hg (IsS63.own_neS HI0.out HO_135001.out (by decide))); have n3_ := qM (below_weaken (by repeat (first | (with_reducible first | exact HB.out | apply yA | apply yN | apply yD | refine yS ?_ (IsS63.ge HI0.out) | refine yS ?_ GE127.out | refine yS ?_ GE134.out) | exact HB.out)) HL.out hb); have n4_ := qM (KeepBut.trans (by repeat (first | (with_reducible first | exact HK.out | apply KeepBut.set_ | apply keep_drewN | apply keep_drew | apply keep_alloc | refine keep_far ?_ GW127.out _ | refine keep_far ?_ GW134.out _) | exact HK.out)) (KeepBut.of_grown hg g) (Kd.S_base2 HO_135001.out)); have n5_ := qM (ho); clear BK127; clear BK134; clear HI0; clear HB; clear HK; clear HO_135001; clear HO163; have BK127 := n0_; have BK134 := n1_; have HI0 := n2_; have HB := n3_; have HK := n4_; have HO166 := n5_; clear n0_ n1_ n2_ n3_ n4_ n5_; clear ho hb hg hat; obtain ⟨Ao74, co74, eo74⟩ := Kd.S_slice HO166.out; subst eo74; have hcz75_0 : w72.cell? ⟨gb134, 0, none⟩ = some (.int .i64 t130) := (zC BK134.out 0).trans rfl; have hcz75_1 : w72.cell? ⟨gb134, 1, none⟩ = some (.slice Ao69 x135001_3.length co69) := (zC BK134.out 1).trans rfl; have hfz75_0 := zF BK134.out 0; have hfz75_1 := zF BK134.out 1))
             go_roundg k3
             case measure => have := HK1.out; have := HJ13.out; have := HK3.out; omega
             case rel => exact ⟨(y164), (.slice Ao74 y164.length co74), H', ⟨by have := HK1.out; have := HJ13.out; have := HK3.out; omega⟩, ⟨by (with_reducible repeat (first | apply Kd.S_alloc | apply Kd.S_drewN | apply Kd.S_drew)); exact Kd.S_mono (Kd.S_far (p := ⟨gb134, 1, none⟩) (Kd.S_types HO166.out BK134.out (by decide)) (fun _ hk => hk.2) (.slice Ao74 y164.length co74)) (fun _ hk => trivial)⟩, ⟨by (with_reducible repeat (first | refine zN ?_ _ | refine zD ?_ | refine zA ?_ _)); refine blk_far ?_ NB127_134.out _; (with_reducible repeat (first | refine zN ?_ _ | refine zD ?_ | refine zA ?_ _)); exact BK127.out⟩, ⟨by (with_reducible repeat (first | refine zN ?_ _ | refine zD ?_ | refine zA ?_ _)); refine blk_put (cs := #[.int .i64 t130, .slice Ao69 x135001_3.length co69]) ?_ 1 _ rfl; (with_reducible repeat (first | refine zN ?_ _ | refine zD ?_ | refine zA ?_ _)); exact BK134.out⟩, ⟨by repeat (first | (with_reducible first | exact HI0.out | apply IsS63.alloc | apply IsS63.drewN | apply IsS63.drew | apply IsS63.set_1 | refine IsS63.far ?_ NB0_127.out _ | refine IsS63.far ?_ NB0_134.out _) | exact HI0.out)⟩, ⟨by repeat (first | (with_reducible first | exact HK.out | apply KeepBut.set_ | apply keep_drewN | apply keep_drew | apply keep_alloc | refine keep_far ?_ GW127.out _ | refine keep_far ?_ GW134.out _) | exact HK.out)⟩, ⟨by repeat (first | (with_reducible first | exact HB.out | apply yA | apply yN | apply yD | refine yS ?_ (IsS63.ge HI0.out) | refine yS ?_ GE127.out | refine yS ?_ GE134.out) | exact HB.out)⟩⟩
            ·rw [if_neg c65] at H
             exact absurd H (by simp)
           ·rw [if_neg c64] at H
            have c64b0 : decide ((x135001_3.length : Int) ≤ t130) = false := decide_eq_false c64
            clear c64
            simp only [Option.some.injEq, Prod.mk.injEq] at H
            obtain ⟨rfl, rfl, rfl⟩ := H
            have hnb76 := NB134_127.out
            have hnc76 := NB127_134.out
            have hnb77 := NB134_0.out
            have hnc77 := NB0_134.out
            have hcz78_0 : wr.cell? ⟨gb134, 0, none⟩ = some (.int .i64 t130) := (zC BK134.out 0).trans rfl
            have hcz78_1 : wr.cell? ⟨gb134, 1, none⟩ = some (u135001) := (zC BK134.out 1).trans rfl
            have hfz78_0 := zF BK134.out 0
            have hfz78_1 := zF BK134.out 1
            obtain ⟨Ao79, co79, eo79⟩ := Kd.S_slice HO_135001.out
            subst eo79
            have hnb80 := NB127_0.out
            have hnc80 := NB0_127.out
            have hcz81_0 : wr.cell? ⟨gb127, 0, none⟩ = some (.int .i64 0) := (zC BK127.out 0).trans rfl
            have hcz81_1 : wr.cell? ⟨gb127, 1, none⟩ = some (.slice none 0 0) := (zC BK127.out 1).trans rfl
            have hfz81_0 := zF BK127.out 0
            have hfz81_1 := zF BK127.out 1
            go_wp2
            refine bodyPost_ret (results_cell_row rfl _ _ gb127 25 #[.int .i64 t130, .slice Ao79 x135001_3.length co79] (0, 0) _ rfl (by (with_reducible repeat (first | refine zN ?_ _ | refine zD ?_ | refine zA ?_ _)); refine blk_put (cs := #[.int .i64 t130, .slice none 0 0]) ?_ 1 _ rfl; (with_reducible repeat (first | refine zN ?_ _ | refine zD ?_ | refine zA ?_ _)); refine blk_put (cs := #[.int .i64 0, .slice none 0 0]) ?_ 0 _ rfl; (with_reducible repeat (first | refine zN ?_ _ | refine zD ?_ | refine zA ?_ _)); exact BK127.out) Try.underlying25 rfl (by kernel_rfl)) rfl ?_
            exact ⟨_, by first | rfl | (simp [errW_none, errW_some] <;> rfl) | (simp [*, errW_none, errW_some] <;> rfl), by (with_reducible repeat (first | apply Kd.S_alloc | apply Kd.S_drewN | apply Kd.S_drew)); exact Kd.S_mono (Kd.S_far (p := ⟨gb127, 1, none⟩) (Kd.S_far (p := ⟨gb127, 0, none⟩) (Kd.S_types HO_135001.out BK127.out (by decide)) (fun _ hk => hk.2) (.int .i64 t130)) (fun _ hk => hk.2) (.slice Ao79 x135001_3.length co79)) (fun _ hk => trivial), by repeat (first | (with_reducible first | exact HI0.out | apply IsS63.alloc | apply IsS63.drewN | apply IsS63.drew | apply IsS63.set_1 | refine IsS63.far ?_ NB0_127.out _ | refine IsS63.far ?_ NB0_134.out _) | exact HI0.out), by repeat (first | (with_reducible first | exact HB.out | apply yA | apply yN | apply yD | refine yS ?_ (IsS63.ge HI0.out) | refine yS ?_ GE127.out | refine yS ?_ GE134.out) | exact HB.out), by repeat (first | (with_reducible first | exact HK.out | apply KeepBut.set_ | apply keep_drewN | apply keep_drew | apply keep_alloc | refine keep_far ?_ GW127.out _ | refine keep_far ?_ GW134.out _) | exact HK.out)⟩
        ·rw [if_neg c62] at H
         have c62b0 : (t146 == 2) = false := beq_eq_false_iff_ne.mpr c62
         have c62b1 : (t146 != 2) = true := bne_iff_ne.mpr c62
         simp only [Option.some.injEq, Prod.mk.injEq] at H
         obtain ⟨rfl, rfl, rfl⟩ := H
         go_wp2_with (first | ((with_reducible refine gate_callee (f := 50) rfl ?_); refine goesL_ (some 33) rfl rfl Try.func50 (by kernel_rfl) rfl #[.pointer (some ⟨g, 0, none⟩), .int .i64 16] rfl (by (try simp only [List.map_toArray, List.map_cons, List.map_nil]); first | done | rfl | (simp only [List.length_drop, List.length_take]; rfl)) ?_; (with_reducible refine (spec_l30Rd_pick.calls kj13 g s0_0 x1001_1 16 t146 t147 w0 _ ?side1 ?side2 A31.out).mono ?_); (case side1 => repeat (first | (with_reducible first | exact HI0.out | apply IsS63.alloc | apply IsS63.drewN | apply IsS63.drew | apply IsS63.set_1 | refine IsS63.far ?_ NB0_127.out _ | refine IsS63.far ?_ NB0_134.out _) | exact HI0.out)); (case side2 => repeat (first | (with_reducible first | exact HB.out | apply yA | apply yN | apply yD | refine yS ?_ (IsS63.ge HI0.out) | refine yS ?_ GE127.out | refine yS ?_ GE134.out) | exact HB.out)); rintro e w82 ⟨rfl, hi, hb, hk⟩; refine ⟨_, rfl, ?_⟩; have n0_ := qM (Kd.S_mono (Kd.S_keep (IsS63.apartS (show IsS63 w0 _ g s0_0 x1001_1 from by repeat (first | (with_reducible first | exact HI0.out | apply IsS63.alloc | apply IsS63.drewN | apply IsS63.drew | apply IsS63.set_1 | refine IsS63.far ?_ NB0_127.out _ | refine IsS63.far ?_ NB0_134.out _) | exact HI0.out)) (by (with_reducible repeat (first | apply Kd.S_alloc | apply Kd.S_drewN | apply Kd.S_drew)); exact HO_135001.out) (by decide)) hk (fun _ h => h.2)) (fun _ h => h.1)); have n1_ := qM (KeepBut.blk hk (g' := gb127) (o := .cells #[.int .i64 0, .slice none 0 0] 25 (0, 0)) (by (with_reducible repeat (first | refine zN ?_ _ | refine zD ?_ | refine zA ?_ _)); exact BK127.out) NB127_0.out (by simp)); have n2_ := qM (KeepBut.blk hk (g' := gb134) (o := .cells #[.int .i64 t130, u135001] 25 (0, 0)) (by (with_reducible repeat (first | refine zN ?_ _ | refine zD ?_ | refine zA ?_ _)); exact BK134.out) NB134_0.out (by simp)); have n3_ := qM (KeepBut.trans (by repeat (first | (with_reducible first | exact HK.out | apply KeepBut.set_ | apply keep_drewN | apply keep_drew | apply keep_alloc | refine keep_far ?_ GW127.out _ | refine keep_far ?_ GW134.out _) | exact HK.out)) hk (.inl rfl)); have n4_ := qM (hb); have n5_ := qM (hi); clear HO_135001; clear BK127; clear BK134; clear HK; clear HB; clear HI0; have HO_135001 := n0_; have BK127 := n1_; have BK134 := n2_; have HK := n3_; have HB := n4_; have HI0 := n5_; clear n0_ n1_ n2_ n3_ n4_ n5_; (try clear hb); (try clear hb2); (try clear hk); (try clear hi); have hnb83 := NB134_127.out; have hnc83 := NB127_134.out; have hnb84 := NB134_0.out; have hnc84 := NB0_134.out; have hcz85_0 : w82.cell? ⟨gb134, 0, none⟩ = some (.int .i64 t130) := (zC BK134.out 0).trans rfl; have hcz85_1 : w82.cell? ⟨gb134, 1, none⟩ = some (u135001) := (zC BK134.out 1).trans rfl; have hfz85_0 := zF BK134.out 0; have hfz85_1 := zF BK134.out 1; have hnb86 := NB127_0.out; have hnc86 := NB0_127.out; have hcz87_0 : w82.cell? ⟨gb127, 0, none⟩ = some (.int .i64 0) := (zC BK127.out 0).trans rfl; have hcz87_1 : w82.cell? ⟨gb127, 1, none⟩ = some (.slice none 0 0) := (zC BK127.out 1).trans rfl; have hfz87_0 := zF BK127.out 0; have hfz87_1 := zF BK127.out 1; obtain ⟨Ao88, co88, eo88⟩ := Kd.S_slice HO_135001.out; subst eo88))
         refine bodyPost_ret (results_cell_row rfl _ _ gb127 25 #[.int .i64 t130, .slice Ao88 x135001_1.length co88] (0, 0) _ rfl (by (with_reducible repeat (first | refine zN ?_ _ | refine zD ?_ | refine zA ?_ _)); refine blk_put (cs := #[.int .i64 t130, .slice none 0 0]) ?_ 1 _ rfl; (with_reducible repeat (first | refine zN ?_ _ | refine zD ?_ | refine zA ?_ _)); refine blk_put (cs := #[.int .i64 0, .slice none 0 0]) ?_ 0 _ rfl; (with_reducible repeat (first | refine zN ?_ _ | refine zD ?_ | refine zA ?_ _)); exact BK127.out) Try.underlying25 rfl (by kernel_rfl)) rfl ?_
         exact ⟨_, by first | rfl | (simp [errW_none, errW_some] <;> rfl) | (simp [*, errW_none, errW_some] <;> rfl), by (with_reducible repeat (first | apply Kd.S_alloc | apply Kd.S_drewN | apply Kd.S_drew)); exact Kd.S_mono (Kd.S_far (p := ⟨gb127, 1, none⟩) (Kd.S_far (p := ⟨gb127, 0, none⟩) (Kd.S_types HO_135001.out BK127.out (by decide)) (fun _ hk => hk.2) (.int .i64 t130)) (fun _ hk => hk.2) (.slice Ao88 x135001_1.length co88)) (fun _ hk => trivial), by repeat (first | (with_reducible first | exact HI0.out | apply IsS63.alloc | apply IsS63.drewN | apply IsS63.drew | apply IsS63.set_1 | refine IsS63.far ?_ NB0_127.out _ | refine IsS63.far ?_ NB0_134.out _) | exact HI0.out), by repeat (first | (with_reducible first | exact HB.out | apply yA | apply yN | apply yD | refine yS ?_ (IsS63.ge HI0.out) | refine yS ?_ GE127.out | refine yS ?_ GE134.out) | exact HB.out), by repeat (first | (with_reducible first | exact HK.out | apply KeepBut.set_ | apply keep_drewN | apply keep_drew | apply keep_alloc | refine keep_far ?_ GW127.out _ | refine keep_far ?_ GW134.out _) | exact HK.out)⟩

end Go.Proofs.Ytekeehhbalhfiaa.PFnBoxFull
