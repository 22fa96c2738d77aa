/- Functions that a law reaches, each with the walk that shows what its call answers; laid by a program of this session. -/
import Derived.Test.YtlmlbodbloahlaaPFnGrdMorex0
import Derived.Test.YtlmlbodbloahlaaPFnGrdMorex2
import Derived.Test.YtlmlbodbloahlaaPFnGrdMorex3
namespace Go.Proofs.Ytlmlbodbloahlaa.PFnGrdMore
open Go.RowKit Go.Proofs.YtlmlbodbloahlaaW.PrintWords Go.Proofs.YtlmlbodbloahlaaW.PrintLast Go.Proofs.YtlmlbodbloahlaaW.PrintMore
attribute [local go_sem] max2_int min2_int max_two min_two max_three min_three max_four min_four   -- for this text's walks alone
set_option linter.unusedVariables false
set_option linter.unusedSimpArgs false

open Go.Proofs.YtlmlbodbloahlaaAl
/-! ### spec_l31Rule: function 49 -/
def spec_l31Rule.f (k : Nat) (s0_0 : List Int) (s0_1 : Int) : Option (Int × Int × Int × Int × Int × Int × Int × Int) := (spec_l30Rd_pick.f k s0_0 s0_1 3).bind fun bt235 => ((spec_l30Rd_pick.f k s0_0 bt235.2 4).bind fun bt237 => ((spec_l30Rd_pick.f k s0_0 bt237.2 5).bind fun bt239 => ((some (([8, 8, 0, 1, 3] : List Int) : List Int)).bind fun y241 => ((spec_l30Rd_pick.f k s0_0 bt239.2 5).bind fun bt244 => (if 0 ≤ bt244.1 then (if bt244.1 < (y241.length : Int) then ((some (([8, 8, bt235.1, wrap64 (bt235.1 + 2)] : List Int) : List Int)).bind fun y248 => ((spec_l30Rd_pick.f k s0_0 bt244.2 4).bind fun bt251 => (if 0 ≤ bt251.1 then (if bt251.1 < (y248.length : Int) then ((spec_l30Rd_pick.f k s0_0 bt251.2 2).bind fun bt254 => (if bt254.1 = 0 then ((spec_l30Rd_pick.f k s0_0 bt254.2 128).bind fun bt256 => ((spec_l30Rd_pick.f k s0_0 bt256.2 128).bind fun bt258 => (some (bt235.1, rd y248 bt251.1, wrap64 (bt237.1 - 1), bt256.1, wrap64 (bt256.1 + bt258.1), wrap64 (bt239.1 - 1), rd y241 bt244.1, bt258.2)))) else (some (bt235.1, rd y248 bt251.1, wrap64 (bt237.1 - 1), 0, 255, wrap64 (bt239.1 - 1), rd y241 bt244.1, bt254.2)))) else (none)) else (none)))) else (none)) else (none))))))
theorem spec_l31Rule.mono : ∀ a0 a1 k, LeO (spec_l31Rule.f k a0 a1) (spec_l31Rule.f (k + 1) a0 a1) := by
 intro a0 a1 k
 unfold spec_l31Rule.f
 repeat' first
   | (with_reducible exact spec_l30Rd_pick.mono _ _ _ _)
   | (with_reducible exact LeO.refl _)
   | (with_reducible exact LeO.none _)
   | (with_reducible refine LeO.ite ?_ ?_)
   | (with_reducible refine LeO.bind ?_ (fun _ => ?_))
   | exact spec_l30Rd_pick.mono _ _ _ _
   | exact LeO.none _
   | refine LeO.ite ?_ ?_
   | refine LeO.bind ?_ (fun _ => ?_)
def spec_l31Rule.T2 : Bool × List (List Nat × List Nat) := (true, [([], []), ([0], [0]), ([], []), ([2], [2]), ([3], [3]), ([1, 4], [1, 4]), ([], []), ([6], [6]), ([5, 7], [5, 7]), ([8], [8]), ([0, 1, 2, 3, 4, 5, 6, 7, 8, 9], []), ([10, 9, 7, 0, 1, 2, 3, 4, 5, 6, 7, 8, 9], [9, 10])])
def spec_l31Rule.B2 : List Nat := [0, 1, 0, 4, 12, 31, 0, 64, 255, 511, 1023, 2047]
theorem spec_l31Rule.tab2 : rtab .any (opsOf Try.f49 2) = spec_l31Rule.T2 := by kernel_rfl
theorem spec_l31Rule.bits2 : waitsOk spec_l31Rule.T2.2 spec_l31Rule.B2 = true := by kernel_rfl
set_option maxHeartbeats 8000000 in
set_option maxRecDepth 100000 in
theorem spec_l31Rule.calls (k : Nat) (g : Nat) (s0_0 : List Int) (s0_1 : Int) (r1 : Int) (r2 : Int) (r3 : Int) (r4 : Int) (r5 : Int) (r6 : Int) (r7 : Int) (r8 : Int) (w0 w : World) (hI : IsS67 w0 w g s0_0 s0_1) (hB : Below w0.heap.size w0 w) (h : spec_l31Rule.f k s0_0 s0_1 = some (r1, r2, r3, r4, r5, r6, r7, r8)) :
  Calls Try.prog 49 #[.pointer (some ⟨g, 0, none⟩)] w fun e w' => e = .returned (.agg #[.int .i64 r1, .int .i64 r2, .int .i64 r3, .int .i64 r4, .int .i64 r5, .int .i64 r6, .int .i64 r7]) ∧ IsS67 w0 w' g s0_0 r8 ∧ Below w0.heap.size w0 w' ∧ KeepBut w w' g none := by
 have hu46 := Try.underlying46
 have HI0 := qM hI
 have HK := qM (KeepBut.refl w g none)
 have HL := qM hB.size
 clear hI
 have HW0 := qM hB.size
 have HB := qM hB
 clear hB
 have H : ((spec_l30Rd_pick.f k s0_0 s0_1 3).bind fun bt235 => ((spec_l30Rd_pick.f k s0_0 bt235.2 4).bind fun bt237 => ((spec_l30Rd_pick.f k s0_0 bt237.2 5).bind fun bt239 => ((some (([8, 8, 0, 1, 3] : List Int) : List Int)).bind fun y241 => ((spec_l30Rd_pick.f k s0_0 bt239.2 5).bind fun bt244 => (if 0 ≤ bt244.1 then (if bt244.1 < (y241.length : Int) then ((some (([8, 8, bt235.1, wrap64 (bt235.1 + 2)] : List Int) : List Int)).bind fun y248 => ((spec_l30Rd_pick.f k s0_0 bt244.2 4).bind fun bt251 => (if 0 ≤ bt251.1 then (if bt251.1 < (y248.length : Int) then ((spec_l30Rd_pick.f k s0_0 bt251.2 2).bind fun bt254 => (if bt254.1 = 0 then ((spec_l30Rd_pick.f k s0_0 bt254.2 128).bind fun bt256 => ((spec_l30Rd_pick.f k s0_0 bt256.2 128).bind fun bt258 => (some (bt235.1, rd y248 bt251.1, wrap64 (bt237.1 - 1), bt256.1, wrap64 (bt256.1 + bt258.1), wrap64 (bt239.1 - 1), rd y241 bt244.1, bt258.2)))) else (some (bt235.1, rd y248 bt251.1, wrap64 (bt237.1 - 1), 0, 255, wrap64 (bt239.1 - 1), rd y241 bt244.1, bt254.2)))) else (none)) else (none)))) else (none)) else (none))))))) = some (r1, r2, r3, r4, r5, r6, r7, r8) := h
 clear h
 replace H := Option.bind_eq_some_iff.mp H
 obtain ⟨⟨t235, t236⟩, A20, H⟩ := H
 replace H : ((spec_l30Rd_pick.f k s0_0 t236 4).bind fun bt237 => ((spec_l30Rd_pick.f k s0_0 bt237.2 5).bind fun bt239 => ((some (([8, 8, 0, 1, 3] : List Int) : List Int)).bind fun y241 => ((spec_l30Rd_pick.f k s0_0 bt239.2 5).bind fun bt244 => (if 0 ≤ bt244.1 then (if bt244.1 < (y241.length : Int) then ((some (([8, 8, t235, wrap64 (t235 + 2)] : List Int) : List Int)).bind fun y248 => ((spec_l30Rd_pick.f k s0_0 bt244.2 4).bind fun bt251 => (if 0 ≤ bt251.1 then (if bt251.1 < (y248.length : Int) then ((spec_l30Rd_pick.f k s0_0 bt251.2 2).bind fun bt254 => (if bt254.1 = 0 then ((spec_l30Rd_pick.f k s0_0 bt254.2 128).bind fun bt256 => ((spec_l30Rd_pick.f k s0_0 bt256.2 128).bind fun bt258 => (some (t235, rd y248 bt251.1, wrap64 (bt237.1 - 1), bt256.1, wrap64 (bt256.1 + bt258.1), wrap64 (bt239.1 - 1), rd y241 bt244.1, bt258.2)))) else (some (t235, rd y248 bt251.1, wrap64 (bt237.1 - 1), 0, 255, wrap64 (bt239.1 - 1), rd y241 bt244.1, bt254.2)))) else (none)) else (none)))) else (none)) else (none)))))) = some (r1, r2, r3, r4, r5, r6, r7, r8) := H
 have A2 := qM A20
 clear A20
 replace H := Option.bind_eq_some_iff.mp H
 obtain ⟨⟨t237, t238⟩, A30, H⟩ := H
 replace H : ((spec_l30Rd_pick.f k s0_0 t238 5).bind fun bt239 => ((some (([8, 8, 0, 1, 3] : List Int) : List Int)).bind fun y241 => ((spec_l30Rd_pick.f k s0_0 bt239.2 5).bind fun bt244 => (if 0 ≤ bt244.1 then (if bt244.1 < (y241.length : Int) then ((some (([8, 8, t235, wrap64 (t235 + 2)] : List Int) : List Int)).bind fun y248 => ((spec_l30Rd_pick.f k s0_0 bt244.2 4).bind fun bt251 => (if 0 ≤ bt251.1 then (if bt251.1 < (y248.length : Int) then ((spec_l30Rd_pick.f k s0_0 bt251.2 2).bind fun bt254 => (if bt254.1 = 0 then ((spec_l30Rd_pick.f k s0_0 bt254.2 128).bind fun bt256 => ((spec_l30Rd_pick.f k s0_0 bt256.2 128).bind fun bt258 => (some (t235, rd y248 bt251.1, wrap64 (t237 - 1), bt256.1, wrap64 (bt256.1 + bt258.1), wrap64 (bt239.1 - 1), rd y241 bt244.1, bt258.2)))) else (some (t235, rd y248 bt251.1, wrap64 (t237 - 1), 0, 255, wrap64 (bt239.1 - 1), rd y241 bt244.1, bt254.2)))) else (none)) else (none)))) else (none)) else (none))))) = some (r1, r2, r3, r4, r5, r6, r7, r8) := H
 have A3 := qM A30
 clear A30
 replace H := Option.bind_eq_some_iff.mp H
 obtain ⟨⟨t239, t240⟩, A40, H⟩ := H
 replace H : ((some (([8, 8, 0, 1, 3] : List Int) : List Int)).bind fun y241 => ((spec_l30Rd_pick.f k s0_0 t240 5).bind fun bt244 => (if 0 ≤ bt244.1 then (if bt244.1 < (y241.length : Int) then ((some (([8, 8, t235, wrap64 (t235 + 2)] : List Int) : List Int)).bind fun y248 => ((spec_l30Rd_pick.f k s0_0 bt244.2 4).bind fun bt251 => (if 0 ≤ bt251.1 then (if bt251.1 < (y248.length : Int) then ((spec_l30Rd_pick.f k s0_0 bt251.2 2).bind fun bt254 => (if bt254.1 = 0 then ((spec_l30Rd_pick.f k s0_0 bt254.2 128).bind fun bt256 => ((spec_l30Rd_pick.f k s0_0 bt256.2 128).bind fun bt258 => (some (t235, rd y248 bt251.1, wrap64 (t237 - 1), bt256.1, wrap64 (bt256.1 + bt258.1), wrap64 (t239 - 1), rd y241 bt244.1, bt258.2)))) else (some (t235, rd y248 bt251.1, wrap64 (t237 - 1), 0, 255, wrap64 (t239 - 1), rd y241 bt244.1, bt254.2)))) else (none)) else (none)))) else (none)) else (none)))) = some (r1, r2, r3, r4, r5, r6, r7, r8) := H
 have A4 := qM A40
 clear A40
 obtain ⟨y241, hy241⟩ : ∃ y_ : List Int, y_ = (([8, 8, 0, 1, 3] : List Int)) := ⟨_, rfl⟩
 replace H : ((spec_l30Rd_pick.f k s0_0 t240 5).bind fun bt244 => (if 0 ≤ bt244.1 then (if bt244.1 < (y241.length : Int) then ((some (([8, 8, t235, wrap64 (t235 + 2)] : List Int) : List Int)).bind fun y248 => ((spec_l30Rd_pick.f k s0_0 bt244.2 4).bind fun bt251 => (if 0 ≤ bt251.1 then (if bt251.1 < (y248.length : Int) then ((spec_l30Rd_pick.f k s0_0 bt251.2 2).bind fun bt254 => (if bt254.1 = 0 then ((spec_l30Rd_pick.f k s0_0 bt254.2 128).bind fun bt256 => ((spec_l30Rd_pick.f k s0_0 bt256.2 128).bind fun bt258 => (some (t235, rd y248 bt251.1, wrap64 (t237 - 1), bt256.1, wrap64 (bt256.1 + bt258.1), wrap64 (t239 - 1), rd y241 bt244.1, bt258.2)))) else (some (t235, rd y248 bt251.1, wrap64 (t237 - 1), 0, 255, wrap64 (t239 - 1), rd y241 bt244.1, bt254.2)))) else (none)) else (none)))) else (none)) else (none))) = some (r1, r2, r3, r4, r5, r6, r7, r8) := by first | (rw [hy241]; with_reducible exact H) | (have H2_ := (Option.bind_some _ _).symm.trans H; rw [hy241]; with_reducible exact H2_) | (have H2_ := (Option.bind_some _ _).symm.trans H; with_reducible exact H2_) | with_reducible exact H | (rw [hy241]; exact H) | exact H
 have Ny241 := qM hy241
 clear hy241
 replace H := Option.bind_eq_some_iff.mp H
 obtain ⟨⟨t244, t245⟩, A50, H⟩ := H
 replace H : (if 0 ≤ t244 then (if t244 < (y241.length : Int) then ((some (([8, 8, t235, wrap64 (t235 + 2)] : List Int) : List Int)).bind fun y248 => ((spec_l30Rd_pick.f k s0_0 t245 4).bind fun bt251 => (if 0 ≤ bt251.1 then (if bt251.1 < (y248.length : Int) then ((spec_l30Rd_pick.f k s0_0 bt251.2 2).bind fun bt254 => (if bt254.1 = 0 then ((spec_l30Rd_pick.f k s0_0 bt254.2 128).bind fun bt256 => ((spec_l30Rd_pick.f k s0_0 bt256.2 128).bind fun bt258 => (some (t235, rd y248 bt251.1, wrap64 (t237 - 1), bt256.1, wrap64 (bt256.1 + bt258.1), wrap64 (t239 - 1), rd y241 t244, bt258.2)))) else (some (t235, rd y248 bt251.1, wrap64 (t237 - 1), 0, 255, wrap64 (t239 - 1), rd y241 t244, bt254.2)))) else (none)) else (none)))) else (none)) else (none)) = some (r1, r2, r3, r4, r5, r6, r7, r8) := H
 have A5 := qM A50
 clear A50
 by_cases c6 : 0 ≤ t244
 ·rw [if_pos c6] at H
  have c6b0 : decide (0 ≤ t244) = true := decide_eq_true c6
  clear c6
  by_cases c7 : t244 < (y241.length : Int)
  ·rw [if_pos c7] at H
   have c7b0 : decide (t244 < (y241.length : Int)) = true := decide_eq_true c7
   clear c7
   obtain ⟨y248, hy248⟩ : ∃ y_ : List Int, y_ = (([8, 8, t235, wrap64 (t235 + 2)] : List Int)) := ⟨_, rfl⟩
   replace H : ((spec_l30Rd_pick.f k s0_0 t245 4).bind fun bt251 => (if 0 ≤ bt251.1 then (if bt251.1 < (y248.length : Int) then ((spec_l30Rd_pick.f k s0_0 bt251.2 2).bind fun bt254 => (if bt254.1 = 0 then ((spec_l30Rd_pick.f k s0_0 bt254.2 128).bind fun bt256 => ((spec_l30Rd_pick.f k s0_0 bt256.2 128).bind fun bt258 => (some (t235, rd y248 bt251.1, wrap64 (t237 - 1), bt256.1, wrap64 (bt256.1 + bt258.1), wrap64 (t239 - 1), rd y241 t244, bt258.2)))) else (some (t235, rd y248 bt251.1, wrap64 (t237 - 1), 0, 255, wrap64 (t239 - 1), rd y241 t244, bt254.2)))) else (none)) else (none))) = some (r1, r2, r3, r4, r5, r6, r7, r8) := by first | (rw [hy248]; with_reducible exact H) | (have H2_ := (Option.bind_some _ _).symm.trans H; rw [hy248]; with_reducible exact H2_) | (have H2_ := (Option.bind_some _ _).symm.trans H; with_reducible exact H2_) | with_reducible exact H | (rw [hy248]; exact H) | exact H
   have Ny248 := qM hy248
   clear hy248
   replace H := Option.bind_eq_some_iff.mp H
   obtain ⟨⟨t251, t252⟩, A80, H⟩ := H
   replace H : (if 0 ≤ t251 then (if t251 < (y248.length : Int) then ((spec_l30Rd_pick.f k s0_0 t252 2).bind fun bt254 => (if bt254.1 = 0 then ((spec_l30Rd_pick.f k s0_0 bt254.2 128).bind fun bt256 => ((spec_l30Rd_pick.f k s0_0 bt256.2 128).bind fun bt258 => (some (t235, rd y248 t251, wrap64 (t237 - 1), bt256.1, wrap64 (bt256.1 + bt258.1), wrap64 (t239 - 1), rd y241 t244, bt258.2)))) else (some (t235, rd y248 t251, wrap64 (t237 - 1), 0, 255, wrap64 (t239 - 1), rd y241 t244, bt254.2)))) else (none)) else (none)) = some (r1, r2, r3, r4, r5, r6, r7, r8) := H
   have A8 := qM A80
   clear A80
   by_cases c9 : 0 ≤ t251
   ·rw [if_pos c9] at H
    have c9b0 : decide (0 ≤ t251) = true := decide_eq_true c9
    clear c9
    by_cases c10 : t251 < (y248.length : Int)
    ·rw [if_pos c10] at H
     have c10b0 : decide (t251 < (y248.length : Int)) = true := decide_eq_true c10
     clear c10
     replace H := Option.bind_eq_some_iff.mp H
     obtain ⟨⟨t254, t255⟩, A110, H⟩ := H
     replace H : (if t254 = 0 then ((spec_l30Rd_pick.f k s0_0 t255 128).bind fun bt256 => ((spec_l30Rd_pick.f k s0_0 bt256.2 128).bind fun bt258 => (some (t235, rd y248 t251, wrap64 (t237 - 1), bt256.1, wrap64 (bt256.1 + bt258.1), wrap64 (t239 - 1), rd y241 t244, bt258.2)))) else (some (t235, rd y248 t251, wrap64 (t237 - 1), 0, 255, wrap64 (t239 - 1), rd y241 t244, t255))) = some (r1, r2, r3, r4, r5, r6, r7, r8) := H
     have A11 := qM A110
     clear A110
     by_cases c12 : t254 = 0
     ·rw [if_pos c12] at H
      have c12b0 : (t254 == 0) = true := beq_iff_eq.mpr c12
      have c12b1 : (t254 != 0) = false := bne_eq_false_iff_eq.mpr c12
      clear c12
      replace H := Option.bind_eq_some_iff.mp H
      obtain ⟨⟨t256, t257⟩, A130, H⟩ := H
      replace H : ((spec_l30Rd_pick.f k s0_0 t257 128).bind fun bt258 => (some (t235, rd y248 t251, wrap64 (t237 - 1), t256, wrap64 (t256 + bt258.1), wrap64 (t239 - 1), rd y241 t244, bt258.2))) = some (r1, r2, r3, r4, r5, r6, r7, r8) := H
      have A13 := qM A130
      clear A130
      replace H := Option.bind_eq_some_iff.mp H
      obtain ⟨⟨t258, t259⟩, A140, H⟩ := H
      replace H : (some (t235, rd y248 t251, wrap64 (t237 - 1), t256, wrap64 (t256 + t258), wrap64 (t239 - 1), rd y241 t244, t259)) = some (r1, r2, r3, r4, r5, r6, r7, r8) := H
      have A14 := qM A140
      clear A140
      simp only [Option.some.injEq, Prod.mk.injEq] at H
      obtain ⟨rfl, rfl, rfl, rfl, rfl, rfl, rfl, rfl⟩ := H
      go_enter Try.func49, Try.ntmps49
      try go_wp2_with (first | ((with_reducible refine gate_dst (N := 2) rfl ?_); refine box_event ?hg (N := 2) ?hd (cs := #[.int .i64 0, .int .i64 0, .int .i64 0, .int .i64 0, .int .i64 0, .int .i64 0, .int .i64 0]) (t := 46) ?hr ?_; (case hd => rfl); (case hg => rfl); (case hr => first | (go_simp; done) | (go_simp; rfl)); intro gb234 hg w15 hbox hb; have n0_ := qM (IsS67.below (by repeat (first | (with_reducible first | exact HI0.out | apply IsS67.alloc | apply IsS67.drewN | apply IsS67.drew | apply IsS67.set_1) | exact HI0.out)) hb); have n1_ := qM (KeepBut.trans (by repeat (first | (with_reducible first | exact HK.out | apply KeepBut.set_ | apply keep_drewN | apply keep_drew | apply keep_alloc) | exact HK.out)) (KeepBut.of_below hb g none) (.inl rfl)); have n2_ := qM (below_step (by repeat (first | (with_reducible first | exact HB.out | apply yA | apply yN | apply yD | refine yS ?_ (IsS67.ge HI0.out)) | exact HB.out)) hb); have n3_ := qM (hbox); have n4_ := qM ((by rw [hg]; exact (keep_size (w := w) (g := g) (row := none) (by repeat (first | (with_reducible first | exact HK.out | apply KeepBut.set_ | apply keep_drewN | apply keep_drew | apply keep_alloc) | exact HK.out))) : w.heap.size ≤ gb234)); have n5_ := qM ((Nat.le_trans HW0.out (by rw [hg]; exact (keep_size (w := w) (g := g) (row := none) (by repeat (first | (with_reducible first | exact HK.out | apply KeepBut.set_ | apply keep_drewN | apply keep_drew | apply keep_alloc) | exact HK.out))) : w.heap.size ≤ gb234) : w0.heap.size ≤ gb234)); have n6_ := qM ((by rw [hg]; exact Nat.ne_of_lt (IsS67.lt (show IsS67 w0 _ g s0_0 s0_1 from by repeat (first | (with_reducible first | exact HI0.out | apply IsS67.alloc | apply IsS67.drewN | apply IsS67.drew | apply IsS67.set_1) | exact HI0.out))) : g ≠ gb234)); have n7_ := qM ((by rw [hg]; exact Nat.ne_of_gt (IsS67.lt (show IsS67 w0 _ g s0_0 s0_1 from by repeat (first | (with_reducible first | exact HI0.out | apply IsS67.alloc | apply IsS67.drewN | apply IsS67.drew | apply IsS67.set_1) | exact HI0.out))) : gb234 ≠ g)); clear HI0; clear HK; clear HB; have HI0 := n0_; have HK := n1_; have HB := n2_; have BK234 := n3_; have GW234 := n4_; have GE234 := n5_; have NB0_234 := n6_; have NB234_0 := n7_; clear n0_ n1_ n2_ n3_ n4_ n5_ n6_ n7_; clear hb hbox hg) | ((with_reducible refine gate_callee (f := 39) rfl ?_); refine goesL_ (some 5) rfl rfl Try.func39 (by kernel_rfl) rfl #[.pointer (some ⟨g, 0, none⟩), .int .i64 3] rfl (by (try simp only [List.map_toArray, List.map_cons, List.map_nil]); first | done | rfl | (simp only [List.length_drop, List.length_take]; rfl)) ?_; (with_reducible refine (spec_l30Rd_pick.calls k g s0_0 s0_1 3 t235 t236 w0 _ ?side1 ?side2 A2.out).mono ?_); (case side1 => repeat (first | (with_reducible first | exact HI0.out | apply IsS67.alloc | apply IsS67.drewN | apply IsS67.drew | apply IsS67.set_1 | refine IsS67.far ?_ NB0_234.out _) | exact HI0.out)); (case side2 => repeat (first | (with_reducible first | exact HB.out | apply yA | apply yN | apply yD | refine yS ?_ (IsS67.ge HI0.out) | refine yS ?_ GE234.out) | exact HB.out)); rintro e w16 ⟨rfl, hi, hb, hk⟩; refine ⟨_, rfl, ?_⟩; have n0_ := qM (KeepBut.blk hk (g' := gb234) (o := .cells #[.int .i64 0, .int .i64 0, .int .i64 0, .int .i64 0, .int .i64 0, .int .i64 0, .int .i64 0] 46 (0, 0)) (by (with_reducible repeat (first | refine zN ?_ _ | refine zD ?_ | refine zA ?_ _)); exact BK234.out) NB234_0.out (by simp)); have n1_ := qM (KeepBut.trans (by repeat (first | (with_reducible first | exact HK.out | apply KeepBut.set_ | apply keep_drewN | apply keep_drew | apply keep_alloc | refine keep_far ?_ GW234.out _) | exact HK.out)) hk (.inl rfl)); have n2_ := qM (hb); have n3_ := qM (hi); clear BK234; clear HK; clear HB; clear HI0; have BK234 := n0_; have HK := n1_; have HB := n2_; have HI0 := n3_; clear n0_ n1_ n2_ n3_; (try clear hb); (try clear hb2); (try clear hk); (try clear hi)) | ((with_reducible refine gate_callee (f := 39) rfl ?_); refine goesL_ (some 7) rfl rfl Try.func39 (by kernel_rfl) rfl #[.pointer (some ⟨g, 0, none⟩), .int .i64 4] rfl (by (try simp only [List.map_toArray, List.map_cons, List.map_nil]); first | done | rfl | (simp only [List.length_drop, List.length_take]; rfl)) ?_; (with_reducible refine (spec_l30Rd_pick.calls k g s0_0 t236 4 t237 t238 w0 _ ?side1 ?side2 A3.out).mono ?_); (case side1 => repeat (first | (with_reducible first | exact HI0.out | apply IsS67.alloc | apply IsS67.drewN | apply IsS67.drew | apply IsS67.set_1 | refine IsS67.far ?_ NB0_234.out _) | exact HI0.out)); (case side2 => repeat (first | (with_reducible first | exact HB.out | apply yA | apply yN | apply yD | refine yS ?_ (IsS67.ge HI0.out) | refine yS ?_ GE234.out) | exact HB.out)); rintro e w17 ⟨rfl, hi, hb, hk⟩; refine ⟨_, rfl, ?_⟩; have n0_ := qM (KeepBut.blk hk (g' := gb234) (o := .cells #[.int .i64 0, .int .i64 0, .int .i64 0, .int .i64 0, .int .i64 0, .int .i64 0, .int .i64 0] 46 (0, 0)) (by (with_reducible repeat (first | refine zN ?_ _ | refine zD ?_ | refine zA ?_ _)); exact BK234.out) NB234_0.out (by simp)); have n1_ := qM (KeepBut.trans (by repeat (first | (with_reducible first | exact HK.out | apply KeepBut.set_ | apply keep_drewN | apply keep_drew | apply keep_alloc | refine keep_far ?_ GW234.out _) | exact HK.out)) hk (.inl rfl)); have n2_ := qM (hb); have n3_ := qM (hi); clear BK234; clear HK; clear HB; clear HI0; have BK234 := n0_; have HK := n1_; have HB := n2_; have HI0 := n3_; clear n0_ n1_ n2_ n3_; (try clear hb); (try clear hb2); (try clear hk); (try clear hi)) | ((with_reducible refine gate_callee (f := 39) rfl ?_); refine goesL_ (some 10) rfl rfl Try.func39 (by kernel_rfl) rfl #[.pointer (some ⟨g, 0, none⟩), .int .i64 5] rfl (by (try simp only [List.map_toArray, List.map_cons, List.map_nil]); first | done | rfl | (simp only [List.length_drop, List.length_take]; rfl)) ?_; (with_reducible refine (spec_l30Rd_pick.calls k g s0_0 t238 5 t239 t240 w0 _ ?side1 ?side2 A4.out).mono ?_); (case side1 => repeat (first | (with_reducible first | exact HI0.out | apply IsS67.alloc | apply IsS67.drewN | apply IsS67.drew | apply IsS67.set_1 | refine IsS67.far ?_ NB0_234.out _) | exact HI0.out)); (case side2 => repeat (first | (with_reducible first | exact HB.out | apply yA | apply yN | apply yD | refine yS ?_ (IsS67.ge HI0.out) | refine yS ?_ GE234.out) | exact HB.out)); rintro e w18 ⟨rfl, hi, hb, hk⟩; refine ⟨_, rfl, ?_⟩; have n0_ := qM (KeepBut.blk hk (g' := gb234) (o := .cells #[.int .i64 0, .int .i64 0, .int .i64 0, .int .i64 0, .int .i64 0, .int .i64 0, .int .i64 0] 46 (0, 0)) (by (with_reducible repeat (first | refine zN ?_ _ | refine zD ?_ | refine zA ?_ _)); exact BK234.out) NB234_0.out (by simp)); have n1_ := qM (KeepBut.trans (by repeat (first | (with_reducible first | exact HK.out | apply KeepBut.set_ | apply keep_drewN | apply keep_drew | apply keep_alloc | refine keep_far ?_ GW234.out _) | exact HK.out)) hk (.inl rfl)); have n2_ := qM (hb); have n3_ := qM (hi); clear BK234; clear HK; clear HB; clear HI0; have BK234 := n0_; have HK := n1_; have HB := n2_; have HI0 := n3_; clear n0_ n1_ n2_ n3_; (try clear hb); (try clear hb2); (try clear hk); (try clear hi)) | ((with_reducible refine gate_dst (N := 12) rfl ?_); refine Kd.R_lit (Kd.int .i64) _ 3 ?hg (N := 12) ?hd (xs := ([8, 8, 0, 1, 3] : List Int)) (inner := [.int .i64 8, .int .i64 8, .int .i64 0, .int .i64 1, .int .i64 3]) (ok := fun _ => True) (okp := fun _ => True) ?hr ?hp (fun _ hk => hk) trivial (Below.refl _ _) (Nat.le_refl _) (by simp) ?_; (case hd => rfl); (case hg => rfl); (case hr => first | (go_simp; done) | (go_simp; rfl)); (case hp => exact (Reps.one (show Kd.M (Kd.int .i64) _ _ _ 8 [.int .i64 8] from rfl) (Reps.one (show Kd.M (Kd.int .i64) _ _ _ 8 [.int .i64 8] from rfl) (Reps.one (show Kd.M (Kd.int .i64) _ _ _ 0 [.int .i64 0] from rfl) (Reps.one (show Kd.M (Kd.int .i64) _ _ _ 1 [.int .i64 1] from rfl) (Reps.one (show Kd.M (Kd.int .i64) _ _ _ 3 [.int .i64 3] from rfl) (Reps.none _ _))))))); intro v242 w19 ho20 hb hg_ hnew_; clear hg_ hnew_; (first | rw [← Ny241.out] at ho20 | (simp only [Int.reduceToNat] at ho20; rw [← Ny241.out] at ho20)); have n0_ := qM (Kd.R_lower ho20 (keep_size (w := w) (g := g) (row := none) (by repeat (first | (with_reducible first | exact HK.out | apply KeepBut.set_ | apply keep_drewN | apply keep_drew | apply keep_alloc | refine keep_far ?_ GW234.out _) | exact HK.out)))); have n1_ := qM (IsS67.below (by repeat (first | (with_reducible first | exact HI0.out | apply IsS67.alloc | apply IsS67.drewN | apply IsS67.drew | apply IsS67.set_1 | refine IsS67.far ?_ NB0_234.out _) | exact HI0.out)) hb); have n2_ := qM (blk_below (g := gb234) (o := .cells #[.int .i64 0, .int .i64 0, .int .i64 0, .int .i64 0, .int .i64 0, .int .i64 0, .int .i64 0] 46 (0, 0)) (by (with_reducible repeat (first | refine zN ?_ _ | refine zD ?_ | refine zA ?_ _)); exact BK234.out) hb); have n3_ := qM (KeepBut.trans (by repeat (first | (with_reducible first | exact HK.out | apply KeepBut.set_ | apply keep_drewN | apply keep_drew | apply keep_alloc | refine keep_far ?_ GW234.out _) | exact HK.out)) (KeepBut.of_below hb g none) (.inl rfl)); have n4_ := qM (below_step (by repeat (first | (with_reducible first | exact HB.out | apply yA | apply yN | apply yD | refine yS ?_ (IsS67.ge HI0.out) | refine yS ?_ GE234.out) | exact HB.out)) hb); clear HI0; clear BK234; clear HK; clear HB; have HO243 := n0_; have HI0 := n1_; have BK234 := n2_; have HK := n3_; have HB := n4_; clear n0_ n1_ n2_ n3_ n4_; clear hb ho20) | ((with_reducible refine gate_callee (f := 39) rfl ?_); refine goesL_ (some 14) rfl rfl Try.func39 (by kernel_rfl) rfl #[.pointer (some ⟨g, 0, none⟩), .int .i64 5] rfl (by (try simp only [List.map_toArray, List.map_cons, List.map_nil]); first | done | rfl | (simp only [List.length_drop, List.length_take]; rfl)) ?_; (with_reducible refine (spec_l30Rd_pick.calls k g s0_0 t240 5 t244 t245 w0 _ ?side1 ?side2 A5.out).mono ?_); (case side1 => repeat (first | (with_reducible first | exact HI0.out | apply IsS67.alloc | apply IsS67.drewN | apply IsS67.drew | apply IsS67.set_1 | refine IsS67.far ?_ NB0_234.out _) | exact HI0.out)); (case side2 => repeat (first | (with_reducible first | exact HB.out | apply yA | apply yN | apply yD | refine yS ?_ (IsS67.ge HI0.out) | refine yS ?_ GE234.out) | exact HB.out)); rintro e w21 ⟨rfl, hi, hb, hk⟩; refine ⟨_, rfl, ?_⟩; have n0_ := qM (KeepBut.blk hk (g' := gb234) (o := .cells #[.int .i64 0, .int .i64 0, .int .i64 0, .int .i64 0, .int .i64 0, .int .i64 0, .int .i64 0] 46 (0, 0)) (by (with_reducible repeat (first | refine zN ?_ _ | refine zD ?_ | refine zA ?_ _)); exact BK234.out) NB234_0.out (by simp)); have n1_ := qM (Kd.R_mono (Kd.R_keep (IsS67.apart (show IsS67 w0 _ g s0_0 t240 from by repeat (first | (with_reducible first | exact HI0.out | apply IsS67.alloc | apply IsS67.drewN | apply IsS67.drew | apply IsS67.set_1 | refine IsS67.far ?_ NB0_234.out _) | exact HI0.out)) (by (with_reducible repeat (first | apply qA | apply qN | apply qD)); exact HO243.out) (by decide)) hk (fun _ h => h.2)) (fun _ h => h.1)); have n2_ := qM (KeepBut.trans (by repeat (first | (with_reducible first | exact HK.out | apply KeepBut.set_ | apply keep_drewN | apply keep_drew | apply keep_alloc | refine keep_far ?_ GW234.out _) | exact HK.out)) hk (.inl rfl)); have n3_ := qM (hb); have n4_ := qM (hi); clear BK234; clear HO243; clear HK; clear HB; clear HI0; have BK234 := n0_; have HO243 := n1_; have HK := n2_; have HB := n3_; have HI0 := n4_; clear n0_ n1_ n2_ n3_ n4_; (try clear hb); (try clear hb2); (try clear hk); (try clear hi); obtain ⟨Ao22, co22, eo22⟩ := Kd.R_slice HO243.out; subst eo22; have p246 : 0 ≤ (t244 : Int) := of_decide_eq_true (by first | (with_reducible assumption) | assumption); have q246 : t244 < (y241.length : Int) := of_decide_eq_true (by first | (with_reducible assumption) | assumption); obtain ⟨ad246, e246, hx246_0⟩ := Kd.at_int (qR HO243.out).2.2 t244 p246 q246; cases e246; replace p246 := eq_true p246; replace q246 := eq_true q246) | ((with_reducible refine gate_dst (N := 3) rfl ?_); refine box_event ?hg (N := 3) ?hd (cs := #[.int .i64 0, .int .i64 0, .int .i64 0, .int .i64 0, .int .i64 0, .int .i64 0, .int .i64 0]) (t := 46) ?hr ?_; (case hd => rfl); (case hg => rfl); (case hr => first | (go_simp; done) | (go_simp; rfl)); intro gb247 hg w23 hbox hb; have n0_ := qM (Kd.R_below (by (with_reducible repeat (first | apply qA | apply qN | apply qD)); exact HO243.out) hb); have n1_ := qM (IsS67.below (by repeat (first | (with_reducible first | exact HI0.out | apply IsS67.alloc | apply IsS67.drewN | apply IsS67.drew | apply IsS67.set_1 | refine IsS67.far ?_ NB0_234.out _) | exact HI0.out)) hb); have n2_ := qM (blk_below (g := gb234) (o := .cells #[.int .i64 0, .int .i64 0, .int .i64 0, .int .i64 0, .int .i64 0, .int .i64 0, .int .i64 0] 46 (0, 0)) (by (with_reducible repeat (first | refine zN ?_ _ | refine zD ?_ | refine zA ?_ _)); exact BK234.out) hb); have n3_ := qM (KeepBut.trans (by repeat (first | (with_reducible first | exact HK.out | apply KeepBut.set_ | apply keep_drewN | apply keep_drew | apply keep_alloc | refine keep_far ?_ GW234.out _) | exact HK.out)) (KeepBut.of_below hb g none) (.inl rfl)); have n4_ := qM (below_step (by repeat (first | (with_reducible first | exact HB.out | apply yA | apply yN | apply yD | refine yS ?_ (IsS67.ge HI0.out) | refine yS ?_ GE234.out) | exact HB.out)) hb); have n5_ := qM (hbox); have n6_ := qM ((by rw [hg]; exact (keep_size (w := w) (g := g) (row := none) (by repeat (first | (with_reducible first | exact HK.out | apply KeepBut.set_ | apply keep_drewN | apply keep_drew | apply keep_alloc | refine keep_far ?_ GW234.out _) | exact HK.out))) : w.heap.size ≤ gb247)); have n7_ := qM ((Nat.le_trans HW0.out (by rw [hg]; exact (keep_size (w := w) (g := g) (row := none) (by repeat (first | (with_reducible first | exact HK.out | apply KeepBut.set_ | apply keep_drewN | apply keep_drew | apply keep_alloc | refine keep_far ?_ GW234.out _) | exact HK.out))) : w.heap.size ≤ gb247) : w0.heap.size ≤ gb247)); have n8_ := qM ((by rw [hg]; exact Nat.ne_of_lt (blk_lt (g := gb234) (o := .cells #[.int .i64 0, .int .i64 0, .int .i64 0, .int .i64 0, .int .i64 0, .int .i64 0, .int .i64 0] 46 (0, 0)) (by (with_reducible repeat (first | refine zN ?_ _ | refine zD ?_ | refine zA ?_ _)); exact BK234.out)) : gb234 ≠ gb247)); have n9_ := qM ((by rw [hg]; exact Nat.ne_of_gt (blk_lt (g := gb234) (o := .cells #[.int .i64 0, .int .i64 0, .int .i64 0, .int .i64 0, .int .i64 0, .int .i64 0, .int .i64 0] 46 (0, 0)) (by (with_reducible repeat (first | refine zN ?_ _ | refine zD ?_ | refine zA ?_ _)); exact BK234.out)) : gb247 ≠ gb234)); have n10_ := qM ((by rw [hg]; exact Nat.ne_of_lt (IsS67.lt (show IsS67 w0 _ g s0_0 t245 from by repeat (first | (with_reducible first | exact HI0.out | apply IsS67.alloc | apply IsS67.drewN | apply IsS67.drew | apply IsS67.set_1 | refine IsS67.far ?_ NB0_234.out _) | exact HI0.out))) : g ≠ gb247)); have n11_ := qM ((by rw [hg]; exact Nat.ne_of_gt (IsS67.lt (show IsS67 w0 _ g s0_0 t245 from by repeat (first | (with_reducible first | exact HI0.out | apply IsS67.alloc | apply IsS67.drewN | apply IsS67.drew | apply IsS67.set_1 | refine IsS67.far ?_ NB0_234.out _) | exact HI0.out))) : gb247 ≠ g)); clear HO243; clear HI0; clear BK234; clear HK; clear HB; have HO243 := n0_; have HI0 := n1_; have BK234 := n2_; have HK := n3_; have HB := n4_; have BK247 := n5_; have GW247 := n6_; have GE247 := n7_; have NB234_247 := n8_; have NB247_234 := n9_; have NB0_247 := n10_; have NB247_0 := n11_; clear n0_ n1_ n2_ n3_ n4_ n5_ n6_ n7_ n8_ n9_ n10_ n11_; clear hb hbox hg; have hnb24 := NB247_234.out; have hnc24 := NB234_247.out; have hnb25 := NB247_0.out; have hnc25 := NB0_247.out; have hcz26_0 : w23.cell? ⟨gb247, 0, none⟩ = some (.int .i64 0) := (zC BK247.out 0).trans rfl; have hcz26_1 : w23.cell? ⟨gb247, 1, none⟩ = some (.int .i64 0) := (zC BK247.out 1).trans rfl; have hcz26_2 : w23.cell? ⟨gb247, 2, none⟩ = some (.int .i64 0) := (zC BK247.out 2).trans rfl; have hcz26_3 : w23.cell? ⟨gb247, 3, none⟩ = some (.int .i64 0) := (zC BK247.out 3).trans rfl; have hcz26_4 : w23.cell? ⟨gb247, 4, none⟩ = some (.int .i64 0) := (zC BK247.out 4).trans rfl; have hcz26_5 : w23.cell? ⟨gb247, 5, none⟩ = some (.int .i64 0) := (zC BK247.out 5).trans rfl; have hcz26_6 : w23.cell? ⟨gb247, 6, none⟩ = some (.int .i64 0) := (zC BK247.out 6).trans rfl; have hfz26_0 := zF BK247.out 0; have hfz26_1 := zF BK247.out 1; have hfz26_2 := zF BK247.out 2; have hfz26_3 := zF BK247.out 3; have hfz26_4 := zF BK247.out 4; have hfz26_5 := zF BK247.out 5; have hfz26_6 := zF BK247.out 6))
      have pi253 : (0 ≤ (t251 : Int)) = True := eq_true (of_decide_eq_true (by first | (with_reducible assumption) | assumption))
      have qi253 : (t251 < (y248.length : Int)) = True := eq_true (of_decide_eq_true (by first | (with_reducible assumption) | assumption))
      have n0_ : Aside0 (Kd.R (Kd.int .i64) 3 (((((((w23.setCell ⟨gb247, 0, none⟩ (.int .i64 t235)).setCell ⟨gb247, 1, none⟩ (.int .i64 8)).setCell ⟨gb247, 2, none⟩ (.int .i64 (wrap64 (t237 - 1)))).setCell ⟨gb247, 3, none⟩ (.int .i64 0)).setCell ⟨gb247, 4, none⟩ (.int .i64 255)).setCell ⟨gb247, 5, none⟩ (.int .i64 (wrap64 (t239 - 1)))).setCell ⟨gb247, 6, none⟩ (.int .i64 (rd y241 t244))) w.heap.size (fun _ => True) (.slice (some ad246) y241.length co22) y241) := ⟨by (with_reducible repeat (first | apply qA | apply qN | apply qD)); exact Kd.R_mono (qF (p := ⟨gb247, 6, none⟩) (qF (p := ⟨gb247, 5, none⟩) (qF (p := ⟨gb247, 4, none⟩) (qF (p := ⟨gb247, 3, none⟩) (qF (p := ⟨gb247, 2, none⟩) (qF (p := ⟨gb247, 1, none⟩) (qF (p := ⟨gb247, 0, none⟩) (Kd.R_types HO243.out BK247.out (by decide)) (fun _ hk => hk.2) (.int .i64 t235)) (fun _ hk => hk.2) (.int .i64 8)) (fun _ hk => hk.2) (.int .i64 (wrap64 (t237 - 1)))) (fun _ hk => hk.2) (.int .i64 0)) (fun _ hk => hk.2) (.int .i64 255)) (fun _ hk => hk.2) (.int .i64 (wrap64 (t239 - 1)))) (fun _ hk => hk.2) (.int .i64 (rd y241 t244))) (fun _ hk => trivial)⟩
      have n1_ : Aside0 ((((((((w23.setCell ⟨gb247, 0, none⟩ (.int .i64 t235)).setCell ⟨gb247, 1, none⟩ (.int .i64 8)).setCell ⟨gb247, 2, none⟩ (.int .i64 (wrap64 (t237 - 1)))).setCell ⟨gb247, 3, none⟩ (.int .i64 0)).setCell ⟨gb247, 4, none⟩ (.int .i64 255)).setCell ⟨gb247, 5, none⟩ (.int .i64 (wrap64 (t239 - 1)))).setCell ⟨gb247, 6, none⟩ (.int .i64 (rd y241 t244))).heap[gb234]? = some (.cells #[.int .i64 0, .int .i64 0, .int .i64 0, .int .i64 0, .int .i64 0, .int .i64 0, .int .i64 0] 46 (0, 0))) := ⟨by (with_reducible repeat (first | refine zN ?_ _ | refine zD ?_ | refine zA ?_ _)); refine blk_far ?_ NB234_247.out _; (with_reducible repeat (first | refine zN ?_ _ | refine zD ?_ | refine zA ?_ _)); refine blk_far ?_ NB234_247.out _; (with_reducible repeat (first | refine zN ?_ _ | refine zD ?_ | refine zA ?_ _)); refine blk_far ?_ NB234_247.out _; (with_reducible repeat (first | refine zN ?_ _ | refine zD ?_ | refine zA ?_ _)); refine blk_far ?_ NB234_247.out _; (with_reducible repeat (first | refine zN ?_ _ | refine zD ?_ | refine zA ?_ _)); refine blk_far ?_ NB234_247.out _; (with_reducible repeat (first | refine zN ?_ _ | refine zD ?_ | refine zA ?_ _)); refine blk_far ?_ NB234_247.out _; (with_reducible repeat (first | refine zN ?_ _ | refine zD ?_ | refine zA ?_ _)); refine blk_far ?_ NB234_247.out _; (with_reducible repeat (first | refine zN ?_ _ | refine zD ?_ | refine zA ?_ _)); exact BK234.out⟩
      have n2_ : Aside0 ((((((((w23.setCell ⟨gb247, 0, none⟩ (.int .i64 t235)).setCell ⟨gb247, 1, none⟩ (.int .i64 8)).setCell ⟨gb247, 2, none⟩ (.int .i64 (wrap64 (t237 - 1)))).setCell ⟨gb247, 3, none⟩ (.int .i64 0)).setCell ⟨gb247, 4, none⟩ (.int .i64 255)).setCell ⟨gb247, 5, none⟩ (.int .i64 (wrap64 (t239 - 1)))).setCell ⟨gb247, 6, none⟩ (.int .i64 (rd y241 t244))).heap[gb247]? = some (.cells #[.int .i64 t235, .int .i64 8, .int .i64 (wrap64 (t237 - 1)), .int .i64 0, .int .i64 255, .int .i64 (wrap64 (t239 - 1)), .int .i64 (rd y241 t244)] 46 (0, 0))) := ⟨by (with_reducible repeat (first | refine zN ?_ _ | refine zD ?_ | refine zA ?_ _)); refine blk_put (cs := #[.int .i64 t235, .int .i64 8, .int .i64 (wrap64 (t237 - 1)), .int .i64 0, .int .i64 255, .int .i64 (wrap64 (t239 - 1)), .int .i64 0]) ?_ 6 _ rfl; (with_reducible repeat (first | refine zN ?_ _ | refine zD ?_ | refine zA ?_ _)); refine blk_put (cs := #[.int .i64 t235, .int .i64 8, .int .i64 (wrap64 (t237 - 1)), .int .i64 0, .int .i64 255, .int .i64 0, .int .i64 0]) ?_ 5 _ rfl; (with_reducible repeat (first | refine zN ?_ _ | refine zD ?_ | refine zA ?_ _)); refine blk_put (cs := #[.int .i64 t235, .int .i64 8, .int .i64 (wrap64 (t237 - 1)), .int .i64 0, .int .i64 0, .int .i64 0, .int .i64 0]) ?_ 4 _ rfl; (with_reducible repeat (first | refine zN ?_ _ | refine zD ?_ | refine zA ?_ _)); refine blk_put (cs := #[.int .i64 t235, .int .i64 8, .int .i64 (wrap64 (t237 - 1)), .int .i64 0, .int .i64 0, .int .i64 0, .int .i64 0]) ?_ 3 _ rfl; (with_reducible repeat (first | refine zN ?_ _ | refine zD ?_ | refine zA ?_ _)); refine blk_put (cs := #[.int .i64 t235, .int .i64 8, .int .i64 0, .int .i64 0, .int .i64 0, .int .i64 0, .int .i64 0]) ?_ 2 _ rfl; (with_reducible repeat (first | refine zN ?_ _ | refine zD ?_ | refine zA ?_ _)); refine blk_put (cs := #[.int .i64 t235, .int .i64 0, .int .i64 0, .int .i64 0, .int .i64 0, .int .i64 0, .int .i64 0]) ?_ 1 _ rfl; (with_reducible repeat (first | refine zN ?_ _ | refine zD ?_ | refine zA ?_ _)); refine blk_put (cs := #[.int .i64 0, .int .i64 0, .int .i64 0, .int .i64 0, .int .i64 0, .int .i64 0, .int .i64 0]) ?_ 0 _ rfl; (with_reducible repeat (first | refine zN ?_ _ | refine zD ?_ | refine zA ?_ _)); exact BK247.out⟩
      have n3_ : Aside0 (IsS67 w0 (((((((w23.setCell ⟨gb247, 0, none⟩ (.int .i64 t235)).setCell ⟨gb247, 1, none⟩ (.int .i64 8)).setCell ⟨gb247, 2, none⟩ (.int .i64 (wrap64 (t237 - 1)))).setCell ⟨gb247, 3, none⟩ (.int .i64 0)).setCell ⟨gb247, 4, none⟩ (.int .i64 255)).setCell ⟨gb247, 5, none⟩ (.int .i64 (wrap64 (t239 - 1)))).setCell ⟨gb247, 6, none⟩ (.int .i64 (rd y241 t244))) g s0_0 t245) := ⟨by repeat (first | (with_reducible first | exact HI0.out | apply IsS67.alloc | apply IsS67.drewN | apply IsS67.drew | apply IsS67.set_1 | refine IsS67.far ?_ NB0_234.out _ | refine IsS67.far ?_ NB0_247.out _) | exact HI0.out)⟩
      have n4_ : Aside0 (KeepBut w (((((((w23.setCell ⟨gb247, 0, none⟩ (.int .i64 t235)).setCell ⟨gb247, 1, none⟩ (.int .i64 8)).setCell ⟨gb247, 2, none⟩ (.int .i64 (wrap64 (t237 - 1)))).setCell ⟨gb247, 3, none⟩ (.int .i64 0)).setCell ⟨gb247, 4, none⟩ (.int .i64 255)).setCell ⟨gb247, 5, none⟩ (.int .i64 (wrap64 (t239 - 1)))).setCell ⟨gb247, 6, none⟩ (.int .i64 (rd y241 t244))) g none) := ⟨by repeat (first | (with_reducible first | exact HK.out | apply KeepBut.set_ | apply keep_drewN | apply keep_drew | apply keep_alloc | refine keep_far ?_ GW234.out _ | refine keep_far ?_ GW247.out _) | exact HK.out)⟩
      have n5_ : Aside0 (Below w0.heap.size w0 (((((((w23.setCell ⟨gb247, 0, none⟩ (.int .i64 t235)).setCell ⟨gb247, 1, none⟩ (.int .i64 8)).setCell ⟨gb247, 2, none⟩ (.int .i64 (wrap64 (t237 - 1)))).setCell ⟨gb247, 3, none⟩ (.int .i64 0)).setCell ⟨gb247, 4, none⟩ (.int .i64 255)).setCell ⟨gb247, 5, none⟩ (.int .i64 (wrap64 (t239 - 1)))).setCell ⟨gb247, 6, none⟩ (.int .i64 (rd y241 t244)))) := ⟨by repeat (first | (with_reducible first | exact HB.out | apply yA | apply yN | apply yD | refine yS ?_ (IsS67.ge HI0.out) | refine yS ?_ GE234.out | refine yS ?_ GE247.out) | exact HB.out)⟩
      (try clear HO243)
      (try clear BK234)
      (try clear BK247)
      (try clear HI0)
      (try clear HK)
      (try clear HB)
      generalize (((((((w23.setCell ⟨gb247, 0, none⟩ (.int .i64 t235)).setCell ⟨gb247, 1, none⟩ (.int .i64 8)).setCell ⟨gb247, 2, none⟩ (.int .i64 (wrap64 (t237 - 1)))).setCell ⟨gb247, 3, none⟩ (.int .i64 0)).setCell ⟨gb247, 4, none⟩ (.int .i64 255)).setCell ⟨gb247, 5, none⟩ (.int .i64 (wrap64 (t239 - 1)))).setCell ⟨gb247, 6, none⟩ (.int .i64 (rd y241 t244))) = w27 at n0_ n1_ n2_ n3_ n4_ n5_ ⊢
      have HO243 := n0_
      have BK234 := n1_
      have BK247 := n2_
      have HI0 := n3_
      have HK := n4_
      have HB := n5_
      clear n0_ n1_ n2_ n3_ n4_ n5_
      have n0_ := qM (qD HO243.out)
      have n1_ := qM (zD BK234.out)
      have n2_ := qM (zD BK247.out)
      have n3_ := qM (IsS67.drew HI0.out)
      have n4_ := qM (keep_drew HK.out)
      have n5_ := qM (yD HB.out)
      clear HO243
      clear BK234
      clear BK247
      clear HI0
      clear HK
      clear HB
      have HO243 := n0_
      have BK234 := n1_
      have BK247 := n2_
      have HI0 := n3_
      have HK := n4_
      have HB := n5_
      clear n0_ n1_ n2_ n3_ n4_ n5_
      refine start_ (n := 12) (S := fun w' => w'.cell? ⟨gb247, 0, none⟩ = some (.int .i64 t235) ∧ w'.cell? ⟨gb247, 1, none⟩ = some (.int .i64 8) ∧ w'.cell? ⟨gb247, 2, none⟩ = some (.int .i64 (wrap64 (t237 - 1))) ∧ w'.cell? ⟨gb247, 3, none⟩ = some (.int .i64 0) ∧ w'.cell? ⟨gb247, 4, none⟩ = some (.int .i64 255) ∧ w'.cell? ⟨gb247, 5, none⟩ = some (.int .i64 (wrap64 (t239 - 1))) ∧ w'.cell? ⟨gb247, 6, none⟩ = some (.int .i64 (rd y241 t244))) (ds := [11]) #[false, false, false, false, false, false, false, false, false, false, false, false] (by kernel_rfl) rfl rfl ⟨(zC BK247.out 0).trans rfl, (zC BK247.out 1).trans rfl, (zC BK247.out 2).trans rfl, (zC BK247.out 3).trans rfl, (zC BK247.out 4).trans rfl, (zC BK247.out 5).trans rfl, (zC BK247.out 6).trans rfl⟩ (fun hHeld => ?_); refine with_tabW spec_l31Rule.tab2 spec_l31Rule.bits2 (fun HT_ HW_ => ?_)
      generalize w27.drew = w28 at HO243 BK234 BK247 HI0 HK HB hHeld ⊢
      refine pure_ (i := 0) (N := some 18) (v := ?_) (a' := ?_) #[true, false, false, false, false, false, false, false, false, false, false, false] rfl rfl (any_of HT_.out (by kernel_rfl)) (fun _ _ _ h => h) (Or.inl ⟨by rfl, ?_⟩) ?_ ?_
      rotate_left
      ·intro w'
       go_simp
       with_reducible rfl
      rotate_left
      ·simp only [Act.put, List.setIfInBounds_toArray, List.set_cons_zero, List.set_cons_succ, i64_w, i32_w]
       rfl
      refine pure_ (i := 2) (N := some 20) (v := ?_) (a' := ?_) #[true, false, true, false, false, false, false, false, false, false, false, false] rfl rfl (any_of HT_.out (by kernel_rfl)) (fun _ _ _ h => h) (Or.inl ⟨by rfl, ?_⟩) ?_ ?_
      rotate_left
      ·intro w'
       go_simp
       with_reducible rfl
      rotate_left
      ·simp only [Act.put, List.setIfInBounds_toArray, List.set_cons_zero, List.set_cons_succ, i64_w, i32_w]
       rfl
      refine pure_ (i := 6) (N := some 24) (v := ?_) (a' := ?_) #[true, false, true, false, false, false, true, false, false, false, false, false] rfl rfl (any_of HT_.out (by kernel_rfl)) (fun _ _ _ h => h) (Or.inl ⟨by rfl, ?_⟩) ?_ ?_
      rotate_left
      ·intro w'
       go_simp
       with_reducible rfl
      rotate_left
      ·simp only [Act.put, List.setIfInBounds_toArray, List.set_cons_zero, List.set_cons_succ, i64_w, i32_w]
       rfl
      refine take_ (i := 1) (N := some 19) (v := ?_) (a' := ?_) #[true, true, true, false, false, false, true, false, false, false, false, false] rfl rfl (take_ofW HT_.out HW_.out (by kernel_rfl)) (fun _ _ _ h => h) (Or.inl ⟨by rfl, ?_⟩) hHeld ?_ ?_
      rotate_left
      ·rintro w' ⟨s0, s1, s2, s3, s4, s5, s6⟩
       go_simp
       with_reducible rfl
      rotate_left
      ·simp only [Act.put, List.setIfInBounds_toArray, List.set_cons_zero, List.set_cons_succ, i64_w, i32_w]
       rfl
      refine take_ (i := 3) (N := some 21) (v := ?_) (a' := ?_) #[true, true, true, true, false, false, true, false, false, false, false, false] rfl rfl (take_ofW HT_.out HW_.out (by kernel_rfl)) (fun _ _ _ h => h) (Or.inl ⟨by rfl, ?_⟩) hHeld ?_ ?_
      rotate_left
      ·rintro w' ⟨s0, s1, s2, s3, s4, s5, s6⟩
       go_simp
       with_reducible rfl
      rotate_left
      ·simp only [Act.put, List.setIfInBounds_toArray, List.set_cons_zero, List.set_cons_succ, i64_w, i32_w]
       rfl
      refine pure_ (i := 4) (N := some 22) (v := ?_) (a' := ?_) #[true, true, true, true, true, false, true, false, false, false, false, false] rfl rfl (any_of HT_.out (by kernel_rfl)) (fun _ _ _ h => h) (Or.inl ⟨by rfl, ?_⟩) ?_ ?_
      rotate_left
      ·intro w'
       go_simp
       with_reducible rfl
      rotate_left
      ·simp only [Act.put, List.setIfInBounds_toArray, List.set_cons_zero, List.set_cons_succ, i64_w, i32_w]
       rfl
      refine join_ (σ := Value × Addr) 4 #[true, true, true, true, true, true, true, true, false, false, false, false] (fun s_ => [(23, s_.1), (25, .int .i64 t251)]) (fun s_ w' => (w'.cell? ⟨gb247, 0, none⟩ = some (.int .i64 t235) ∧ w'.cell? ⟨gb247, 1, none⟩ = some (.int .i64 8) ∧ w'.cell? ⟨gb247, 2, none⟩ = some (.int .i64 (wrap64 (t237 - 1))) ∧ w'.cell? ⟨gb247, 3, none⟩ = some (.int .i64 0) ∧ w'.cell? ⟨gb247, 4, none⟩ = some (.int .i64 255) ∧ w'.cell? ⟨gb247, 5, none⟩ = some (.int .i64 (wrap64 (t239 - 1))) ∧ w'.cell? ⟨gb247, 6, none⟩ = some (.int .i64 (rd y241 t244))) ∧ (Kd.R (Kd.int .i64) 3 w' w.heap.size (fun k_ => some k_ ≠ (s_.1 : Value).ownBlock) (.slice (some ad246) y241.length co22) y241) ∧ (Kd.R (Kd.int .i64) 3 w' w.heap.size (fun k_ => some k_ ≠ (.slice (some ad246) y241.length co22 : Value).ownBlock) s_.1 y248) ∧ (∃ c_, (s_.1 : Value) = .slice (some s_.2) y248.length c_) ∧ (w'.heap[gb234]? = some (.cells #[.int .i64 0, .int .i64 0, .int .i64 0, .int .i64 0, .int .i64 0, .int .i64 0, .int .i64 0] 46 (0, 0))) ∧ (w'.heap[gb247]? = some (.cells #[.int .i64 t235, .int .i64 8, .int .i64 (wrap64 (t237 - 1)), .int .i64 0, .int .i64 255, .int .i64 (wrap64 (t239 - 1)), .int .i64 (rd y241 t244)] 46 (0, 0))) ∧ (IsS67 w0 w' g s0_0 t252) ∧ (KeepBut w w' g none) ∧ (Below w0.heap.size w0 w')) ?_ ?_
      rotate_left
      ·intro hCont
       refine two_ (i := 5) (j := 7) (Ni := some 23) (Nj := some 25) #[true, true, true, true, true, true, true, false, false, false, false, false] #[true, true, true, true, true, false, true, true, false, false, false, false] rfl rfl rfl rfl (two_of HT_.out (by kernel_rfl)) (by decide) (by decide) (fun K hK => ?_) (fun K hK => ?_)
       ·skip
        refine Kd.R_lit_step (Kd.int .i64) _ 3 ?hg (N := 23) ?hd (xs := ([8, 8, t235, wrap64 (t235 + 2)] : List Int)) (inner := [.int .i64 8, .int .i64 8, .int .i64 t235, .int .i64 (wrap64 (t235 + 2))]) (ok := fun _ => True) (okp := fun _ => True) ?hr ?hp (fun _ hk => hk) trivial (Below.refl _ _) (Nat.le_refl _) (by simp) ?_; (case hd => rfl); (case hg => rfl); (case hr => first | (go_simp; done) | (go_simp; rfl)); (case hp => exact (Reps.one (show Kd.M (Kd.int .i64) _ _ _ 8 [.int .i64 8] from rfl) (Reps.one (show Kd.M (Kd.int .i64) _ _ _ 8 [.int .i64 8] from rfl) (Reps.one (show Kd.M (Kd.int .i64) _ _ _ t235 [.int .i64 t235] from rfl) (Reps.one (show Kd.M (Kd.int .i64) _ _ _ (wrap64 (t235 + 2)) [.int .i64 (wrap64 (t235 + 2))] from rfl) (Reps.none _ _))))))
        intro v249 w29 ho30 hb hg_ hnew_
        clear hg_ hnew_
        (first | rw [← Ny248.out] at ho30 | (simp only [Int.reduceToNat] at ho30; rw [← Ny248.out] at ho30))
        have n0_ := qM (Kd.R_elder' (by (with_reducible repeat (first | apply qA | apply qN | apply qD)); exact HO243.out) (Kd.R_base ho30) hb)
        have n1_ := qM (Kd.R_lower (Kd.R_new' ho30 (Kd.R_lt (by (with_reducible repeat (first | apply qA | apply qN | apply qD)); exact HO243.out))) (keep_size (w := w) (g := g) (row := none) (by repeat (first | (with_reducible first | exact HK.out | apply KeepBut.set_ | apply keep_drewN | apply keep_drew | apply keep_alloc | refine keep_far ?_ GW234.out _ | refine keep_far ?_ GW247.out _) | exact HK.out))))
        have n2_ := qM (IsS67.below (by repeat (first | (with_reducible first | exact HI0.out | apply IsS67.alloc | apply IsS67.drewN | apply IsS67.drew | apply IsS67.set_1 | refine IsS67.far ?_ NB0_234.out _ | refine IsS67.far ?_ NB0_247.out _) | exact HI0.out)) hb)
        have n3_ := qM (blk_below (g := gb234) (o := .cells #[.int .i64 0, .int .i64 0, .int .i64 0, .int .i64 0, .int .i64 0, .int .i64 0, .int .i64 0] 46 (0, 0)) (by (with_reducible repeat (first | refine zN ?_ _ | refine zD ?_ | refine zA ?_ _)); exact BK234.out) hb)
        have n4_ := qM (blk_below (g := gb247) (o := .cells #[.int .i64 t235, .int .i64 8, .int .i64 (wrap64 (t237 - 1)), .int .i64 0, .int .i64 255, .int .i64 (wrap64 (t239 - 1)), .int .i64 (rd y241 t244)] 46 (0, 0)) (by (with_reducible repeat (first | refine zN ?_ _ | refine zD ?_ | refine zA ?_ _)); exact BK247.out) hb)
        have n5_ := qM (KeepBut.trans (by repeat (first | (with_reducible first | exact HK.out | apply KeepBut.set_ | apply keep_drewN | apply keep_drew | apply keep_alloc | refine keep_far ?_ GW234.out _ | refine keep_far ?_ GW247.out _) | exact HK.out)) (KeepBut.of_below hb g none) (.inl rfl))
        have n6_ := qM (below_step (by repeat (first | (with_reducible first | exact HB.out | apply yA | apply yN | apply yD | refine yS ?_ (IsS67.ge HI0.out) | refine yS ?_ GE234.out | refine yS ?_ GE247.out) | exact HB.out)) hb)
        clear HO243
        clear HI0
        clear BK234
        clear BK247
        clear HK
        clear HB
        have HO243 := n0_
        have HO250 := n1_
        have HI0 := n2_
        have BK234 := n3_
        have BK247 := n4_
        have HK := n5_
        have HB := n6_
        clear n0_ n1_ n2_ n3_ n4_ n5_ n6_
        clear hb ho30
        obtain ⟨Ao31, co31, eo31⟩ := Kd.R_slice HO250.out
        subst eo31
        obtain ⟨ado31, fo31, _⟩ := Kd.at_int (qR HO250.out).2.2 0 (by decide) (by rw [Ny248.out]; simp)
        cases fo31
        refine hK.out _ _ ⟨(zC BK247.out 0).trans rfl, (zC BK247.out 1).trans rfl, (zC BK247.out 2).trans rfl, (zC BK247.out 3).trans rfl, (zC BK247.out 4).trans rfl, (zC BK247.out 5).trans rfl, (zC BK247.out 6).trans rfl⟩ (fun hHeld => ?_)
        clear hK K
        refine norm_ (a' := ?_) ?_ ?_
        rotate_left
        ·show Act.put _ (some 23) _ = _
         simp only [Act.put, List.setIfInBounds_toArray, List.set_cons_zero, List.set_cons_succ, i64_w, i32_w]
         rfl
        refine one_ (i := 7) (N := some 25) #[true, true, true, true, true, true, true, true, false, false, false, false] rfl rfl (one_of HT_.out (by kernel_rfl)) (by decide) (fun K hK => ?_)
        refine goes_ Try.func39 (by kernel_rfl) rfl #[.pointer (some ⟨g, 0, none⟩), .int .i64 4] (by rfl) rfl rfl (by (try simp only [List.map_toArray, List.map_cons, List.map_nil]); first | done | rfl | (simp only [List.length_drop, List.length_take]; rfl)) ?_
        with_reducible refine (spec_l30Rd_pick.calls k g s0_0 t245 4 t251 t252 w0 _ ?side1 ?side2 A8.out).mono ?_
        (case side1 => repeat (first | (with_reducible first | exact HI0.out | apply IsS67.alloc | apply IsS67.drewN | apply IsS67.drew | apply IsS67.set_1 | refine IsS67.far ?_ NB0_234.out _ | refine IsS67.far ?_ NB0_247.out _) | exact HI0.out))
        (case side2 => repeat (first | (with_reducible first | exact HB.out | apply yA | apply yN | apply yD | refine yS ?_ (IsS67.ge HI0.out) | refine yS ?_ GE234.out | refine yS ?_ GE247.out) | exact HB.out))
        rintro e w32 ⟨rfl, hi, hb, hk⟩
        refine ⟨_, rfl, ?_⟩
        have n0_ := qM (KeepBut.blk hk (g' := gb234) (o := .cells #[.int .i64 0, .int .i64 0, .int .i64 0, .int .i64 0, .int .i64 0, .int .i64 0, .int .i64 0] 46 (0, 0)) (by (with_reducible repeat (first | refine zN ?_ _ | refine zD ?_ | refine zA ?_ _)); exact BK234.out) NB234_0.out (by simp))
        have n1_ := qM (Kd.R_mono (Kd.R_keep (IsS67.apart (show IsS67 w0 _ g s0_0 t245 from by repeat (first | (with_reducible first | exact HI0.out | apply IsS67.alloc | apply IsS67.drewN | apply IsS67.drew | apply IsS67.set_1 | refine IsS67.far ?_ NB0_234.out _ | refine IsS67.far ?_ NB0_247.out _) | exact HI0.out)) (by (with_reducible repeat (first | apply qA | apply qN | apply qD)); exact HO243.out) (by decide)) hk (fun _ h => h.2)) (fun _ h => h.1))
        have n2_ := qM (KeepBut.blk hk (g' := gb247) (o := .cells #[.int .i64 t235, .int .i64 8, .int .i64 (wrap64 (t237 - 1)), .int .i64 0, .int .i64 255, .int .i64 (wrap64 (t239 - 1)), .int .i64 (rd y241 t244)] 46 (0, 0)) (by (with_reducible repeat (first | refine zN ?_ _ | refine zD ?_ | refine zA ?_ _)); exact BK247.out) NB247_0.out (by simp))
        have n3_ := qM (Kd.R_mono (Kd.R_keep (IsS67.apart (show IsS67 w0 _ g s0_0 t245 from by repeat (first | (with_reducible first | exact HI0.out | apply IsS67.alloc | apply IsS67.drewN | apply IsS67.drew | apply IsS67.set_1 | refine IsS67.far ?_ NB0_234.out _ | refine IsS67.far ?_ NB0_247.out _) | exact HI0.out)) (by (with_reducible repeat (first | apply qA | apply qN | apply qD)); exact HO250.out) (by decide)) hk (fun _ h => h.2)) (fun _ h => h.1))
        have n4_ := qM (KeepBut.trans (by repeat (first | (with_reducible first | exact HK.out | apply KeepBut.set_ | apply keep_drewN | apply keep_drew | apply keep_alloc | refine keep_far ?_ GW234.out _ | refine keep_far ?_ GW247.out _) | exact HK.out)) hk (.inl rfl))
        have n5_ := qM (hb)
        have n6_ := qM (hi)
        clear BK234
        clear HO243
        clear BK247
        clear HO250
        clear HK
        clear HB
        clear HI0
        have BK234 := n0_
        have HO243 := n1_
        have BK247 := n2_
        have HO250 := n3_
        have HK := n4_
        have HB := n5_
        have HI0 := n6_
        clear n0_ n1_ n2_ n3_ n4_ n5_ n6_
        (try clear hb)
        (try clear hb2)
        (try clear hk)
        (try clear hi)
        refine hK.out _ _ ⟨(zC BK247.out 0).trans rfl, (zC BK247.out 1).trans rfl, (zC BK247.out 2).trans rfl, (zC BK247.out 3).trans rfl, (zC BK247.out 4).trans rfl, (zC BK247.out 5).trans rfl, (zC BK247.out 6).trans rfl⟩ (fun hHeld => ?_)
        clear hK K
        refine norm_ (a' := ?_) ?_ ?_
        rotate_left
        ·show Act.put _ (some 25) _ = _
         simp only [Act.put, List.setIfInBounds_toArray, List.set_cons_zero, List.set_cons_succ, i64_w, i32_w]
         rfl
        exact norm_ (by simp only [putAll, Act.put, List.setIfInBounds_toArray, List.set_cons_zero, List.set_cons_succ]) (hCont (.slice (some ado31) y248.length co31, ado31) _ ⟨hHeld, (by (with_reducible repeat (first | apply qA | apply qN | apply qD)); exact Kd.R_mono HO243.out (fun _ hk => hk.2)), (by (with_reducible repeat (first | apply qA | apply qN | apply qD)); exact Kd.R_mono HO250.out (fun _ hk => hk.2)), ⟨_, rfl⟩, (by (with_reducible repeat (first | refine zN ?_ _ | refine zD ?_ | refine zA ?_ _)); exact BK234.out), (by (with_reducible repeat (first | refine zN ?_ _ | refine zD ?_ | refine zA ?_ _)); exact BK247.out), (by repeat (first | (with_reducible first | exact HI0.out | apply IsS67.alloc | apply IsS67.drewN | apply IsS67.drew | apply IsS67.set_1 | refine IsS67.far ?_ NB0_234.out _ | refine IsS67.far ?_ NB0_247.out _) | exact HI0.out)), (by repeat (first | (with_reducible first | exact HK.out | apply KeepBut.set_ | apply keep_drewN | apply keep_drew | apply keep_alloc | refine keep_far ?_ GW234.out _ | refine keep_far ?_ GW247.out _) | exact HK.out)), (by repeat (first | (with_reducible first | exact HB.out | apply yA | apply yN | apply yD | refine yS ?_ (IsS67.ge HI0.out) | refine yS ?_ GE234.out | refine yS ?_ GE247.out) | exact HB.out))⟩)
       ·skip
        refine goes_ Try.func39 (by kernel_rfl) rfl #[.pointer (some ⟨g, 0, none⟩), .int .i64 4] (by rfl) rfl rfl (by (try simp only [List.map_toArray, List.map_cons, List.map_nil]); first | done | rfl | (simp only [List.length_drop, List.length_take]; rfl)) ?_
        with_reducible refine (spec_l30Rd_pick.calls k g s0_0 t245 4 t251 t252 w0 _ ?side1 ?side2 A8.out).mono ?_
        (case side1 => repeat (first | (with_reducible first | exact HI0.out | apply IsS67.alloc | apply IsS67.drewN | apply IsS67.drew | apply IsS67.set_1 | refine IsS67.far ?_ NB0_234.out _ | refine IsS67.far ?_ NB0_247.out _) | exact HI0.out))
        (case side2 => repeat (first | (with_reducible first | exact HB.out | apply yA | apply yN | apply yD | refine yS ?_ (IsS67.ge HI0.out) | refine yS ?_ GE234.out | refine yS ?_ GE247.out) | exact HB.out))
        rintro e w29 ⟨rfl, hi, hb, hk⟩
        refine ⟨_, rfl, ?_⟩
        have n0_ := qM (KeepBut.blk hk (g' := gb234) (o := .cells #[.int .i64 0, .int .i64 0, .int .i64 0, .int .i64 0, .int .i64 0, .int .i64 0, .int .i64 0] 46 (0, 0)) (by (with_reducible repeat (first | refine zN ?_ _ | refine zD ?_ | refine zA ?_ _)); exact BK234.out) NB234_0.out (by simp))
        have n1_ := qM (Kd.R_mono (Kd.R_keep (IsS67.apart (show IsS67 w0 _ g s0_0 t245 from by repeat (first | (with_reducible first | exact HI0.out | apply IsS67.alloc | apply IsS67.drewN | apply IsS67.drew | apply IsS67.set_1 | refine IsS67.far ?_ NB0_234.out _ | refine IsS67.far ?_ NB0_247.out _) | exact HI0.out)) (by (with_reducible repeat (first | apply qA | apply qN | apply qD)); exact HO243.out) (by decide)) hk (fun _ h => h.2)) (fun _ h => h.1))
        have n2_ := qM (KeepBut.blk hk (g' := gb247) (o := .cells #[.int .i64 t235, .int .i64 8, .int .i64 (wrap64 (t237 - 1)), .int .i64 0, .int .i64 255, .int .i64 (wrap64 (t239 - 1)), .int .i64 (rd y241 t244)] 46 (0, 0)) (by (with_reducible repeat (first | refine zN ?_ _ | refine zD ?_ | refine zA ?_ _)); exact BK247.out) NB247_0.out (by simp))
        have n3_ := qM (KeepBut.trans (by repeat (first | (with_reducible first | exact HK.out | apply KeepBut.set_ | apply keep_drewN | apply keep_drew | apply keep_alloc | refine keep_far ?_ GW234.out _ | refine keep_far ?_ GW247.out _) | exact HK.out)) hk (.inl rfl))
        have n4_ := qM (hb)
        have n5_ := qM (hi)
        clear BK234
        clear HO243
        clear BK247
        clear HK
        clear HB
        clear HI0
        have BK234 := n0_
        have HO243 := n1_
        have BK247 := n2_
        have HK := n3_
        have HB := n4_
        have HI0 := n5_
        clear n0_ n1_ n2_ n3_ n4_ n5_
        (try clear hb)
        (try clear hb2)
        (try clear hk)
        (try clear hi)
        refine hK.out _ _ ⟨(zC BK247.out 0).trans rfl, (zC BK247.out 1).trans rfl, (zC BK247.out 2).trans rfl, (zC BK247.out 3).trans rfl, (zC BK247.out 4).trans rfl, (zC BK247.out 5).trans rfl, (zC BK247.out 6).trans rfl⟩ (fun hHeld => ?_)
        clear hK K
        refine norm_ (a' := ?_) ?_ ?_
        rotate_left
        ·show Act.put _ (some 25) _ = _
         simp only [Act.put, List.setIfInBounds_toArray, List.set_cons_zero, List.set_cons_succ, i64_w, i32_w]
         rfl
        refine one_ (i := 5) (N := some 23) #[true, true, true, true, true, true, true, true, false, false, false, false] rfl rfl (one_of HT_.out (by kernel_rfl)) (by decide) (fun K hK => ?_)
        refine Kd.R_lit_step (Kd.int .i64) _ 3 ?hg (N := 23) ?hd (xs := ([8, 8, t235, wrap64 (t235 + 2)] : List Int)) (inner := [.int .i64 8, .int .i64 8, .int .i64 t235, .int .i64 (wrap64 (t235 + 2))]) (ok := fun _ => True) (okp := fun _ => True) ?hr ?hp (fun _ hk => hk) trivial (Below.refl _ _) (Nat.le_refl _) (by simp) ?_; (case hd => rfl); (case hg => rfl); (case hr => first | (go_simp; done) | (go_simp; rfl)); (case hp => exact (Reps.one (show Kd.M (Kd.int .i64) _ _ _ 8 [.int .i64 8] from rfl) (Reps.one (show Kd.M (Kd.int .i64) _ _ _ 8 [.int .i64 8] from rfl) (Reps.one (show Kd.M (Kd.int .i64) _ _ _ t235 [.int .i64 t235] from rfl) (Reps.one (show Kd.M (Kd.int .i64) _ _ _ (wrap64 (t235 + 2)) [.int .i64 (wrap64 (t235 + 2))] from rfl) (Reps.none _ _))))))
        intro v249 w30 ho31 hb hg_ hnew_
        clear hg_ hnew_
        (first | rw [← Ny248.out] at ho31 | (simp only [Int.reduceToNat] at ho31; rw [← Ny248.out] at ho31))
        have n0_ := qM (Kd.R_elder' (by (with_reducible repeat (first | apply qA | apply qN | apply qD)); exact HO243.out) (Kd.R_base ho31) hb)
        have n1_ := qM (Kd.R_lower (Kd.R_new' ho31 (Kd.R_lt (by (with_reducible repeat (first | apply qA | apply qN | apply qD)); exact HO243.out))) (keep_size (w := w) (g := g) (row := none) (by repeat (first | (with_reducible first | exact HK.out | apply KeepBut.set_ | apply keep_drewN | apply keep_drew | apply keep_alloc | refine keep_far ?_ GW234.out _ | refine keep_far ?_ GW247.out _) | exact HK.out))))
        have n2_ := qM (IsS67.below (by repeat (first | (with_reducible first | exact HI0.out | apply IsS67.alloc | apply IsS67.drewN | apply IsS67.drew | apply IsS67.set_1 | refine IsS67.far ?_ NB0_234.out _ | refine IsS67.far ?_ NB0_247.out _) | exact HI0.out)) hb)
        have n3_ := qM (blk_below (g := gb234) (o := .cells #[.int .i64 0, .int .i64 0, .int .i64 0, .int .i64 0, .int .i64 0, .int .i64 0, .int .i64 0] 46 (0, 0)) (by (with_reducible repeat (first | refine zN ?_ _ | refine zD ?_ | refine zA ?_ _)); exact BK234.out) hb)
        have n4_ := qM (blk_below (g := gb247) (o := .cells #[.int .i64 t235, .int .i64 8, .int .i64 (wrap64 (t237 - 1)), .int .i64 0, .int .i64 255, .int .i64 (wrap64 (t239 - 1)), .int .i64 (rd y241 t244)] 46 (0, 0)) (by (with_reducible repeat (first | refine zN ?_ _ | refine zD ?_ | refine zA ?_ _)); exact BK247.out) hb)
        have n5_ := qM (KeepBut.trans (by repeat (first | (with_reducible first | exact HK.out | apply KeepBut.set_ | apply keep_drewN | apply keep_drew | apply keep_alloc | refine keep_far ?_ GW234.out _ | refine keep_far ?_ GW247.out _) | exact HK.out)) (KeepBut.of_below hb g none) (.inl rfl))
        have n6_ := qM (below_step (by repeat (first | (with_reducible first | exact HB.out | apply yA | apply yN | apply yD | refine yS ?_ (IsS67.ge HI0.out) | refine yS ?_ GE234.out | refine yS ?_ GE247.out) | exact HB.out)) hb)
        clear HO243
        clear HI0
        clear BK234
        clear BK247
        clear HK
        clear HB
        have HO243 := n0_
        have HO250 := n1_
        have HI0 := n2_
        have BK234 := n3_
        have BK247 := n4_
        have HK := n5_
        have HB := n6_
        clear n0_ n1_ n2_ n3_ n4_ n5_ n6_
        clear hb ho31
        obtain ⟨Ao32, co32, eo32⟩ := Kd.R_slice HO250.out
        subst eo32
        obtain ⟨ado32, fo32, _⟩ := Kd.at_int (qR HO250.out).2.2 0 (by decide) (by rw [Ny248.out]; simp)
        cases fo32
        refine hK.out _ _ ⟨(zC BK247.out 0).trans rfl, (zC BK247.out 1).trans rfl, (zC BK247.out 2).trans rfl, (zC BK247.out 3).trans rfl, (zC BK247.out 4).trans rfl, (zC BK247.out 5).trans rfl, (zC BK247.out 6).trans rfl⟩ (fun hHeld => ?_)
        clear hK K
        refine norm_ (a' := ?_) ?_ ?_
        rotate_left
        ·show Act.put _ (some 23) _ = _
         simp only [Act.put, List.setIfInBounds_toArray, List.set_cons_zero, List.set_cons_succ, i64_w, i32_w]
         rfl
        exact norm_ (by simp only [putAll, Act.put, List.setIfInBounds_toArray, List.set_cons_zero, List.set_cons_succ]) (hCont (.slice (some ado32) y248.length co32, ado32) _ ⟨hHeld, (by (with_reducible repeat (first | apply qA | apply qN | apply qD)); exact Kd.R_mono HO243.out (fun _ hk => hk.2)), (by (with_reducible repeat (first | apply qA | apply qN | apply qD)); exact Kd.R_mono HO250.out (fun _ hk => hk.2)), ⟨_, rfl⟩, (by (with_reducible repeat (first | refine zN ?_ _ | refine zD ?_ | refine zA ?_ _)); exact BK234.out), (by (with_reducible repeat (first | refine zN ?_ _ | refine zD ?_ | refine zA ?_ _)); exact BK247.out), (by repeat (first | (with_reducible first | exact HI0.out | apply IsS67.alloc | apply IsS67.drewN | apply IsS67.drew | apply IsS67.set_1 | refine IsS67.far ?_ NB0_234.out _ | refine IsS67.far ?_ NB0_247.out _) | exact HI0.out)), (by repeat (first | (with_reducible first | exact HK.out | apply KeepBut.set_ | apply keep_drewN | apply keep_drew | apply keep_alloc | refine keep_far ?_ GW234.out _ | refine keep_far ?_ GW247.out _) | exact HK.out)), (by repeat (first | (with_reducible first | exact HB.out | apply yA | apply yN | apply yD | refine yS ?_ (IsS67.ge HI0.out) | refine yS ?_ GE234.out | refine yS ?_ GE247.out) | exact HB.out))⟩)
      rintro ⟨v249, adz_v249⟩ w33 ⟨hS_, h0_, h1_, h2_, h3_, h4_, h5_, h6_, h7_⟩
      have n0_ : Aside0 (Kd.R (Kd.int .i64) 3 w33 w.heap.size (fun k_ => some k_ ≠ (v249 : Value).ownBlock) (.slice (some ad246) y241.length co22) y241) := ⟨h0_⟩
      have n1_ : Aside0 (Kd.R (Kd.int .i64) 3 w33 w.heap.size (fun k_ => some k_ ≠ (.slice (some ad246) y241.length co22 : Value).ownBlock) v249 y248) := ⟨h1_⟩
      have n2_ : Aside0 (∃ c_, (v249 : Value) = .slice (some adz_v249) y248.length c_) := ⟨h2_⟩
      have n3_ : Aside0 (w33.heap[gb234]? = some (.cells #[.int .i64 0, .int .i64 0, .int .i64 0, .int .i64 0, .int .i64 0, .int .i64 0, .int .i64 0] 46 (0, 0))) := ⟨h3_⟩
      have n4_ : Aside0 (w33.heap[gb247]? = some (.cells #[.int .i64 t235, .int .i64 8, .int .i64 (wrap64 (t237 - 1)), .int .i64 0, .int .i64 255, .int .i64 (wrap64 (t239 - 1)), .int .i64 (rd y241 t244)] 46 (0, 0))) := ⟨h4_⟩
      have n5_ : Aside0 (IsS67 w0 w33 g s0_0 t252) := ⟨h5_⟩
      have n6_ : Aside0 (KeepBut w w33 g none) := ⟨h6_⟩
      have n7_ : Aside0 (Below w0.heap.size w0 w33) := ⟨h7_⟩
      clear HO243
      clear BK234
      clear BK247
      clear HI0
      clear HK
      clear HB
      clear h0_ h1_ h2_ h3_ h4_ h5_ h6_ h7_
      have HO243 := n0_
      have HO250 := n1_
      have HA_HO250 := n2_
      have BK234 := n3_
      have BK247 := n4_
      have HI0 := n5_
      have HK := n6_
      have HB := n7_
      clear n0_ n1_ n2_ n3_ n4_ n5_ n6_ n7_
      have hHeld : w33.cell? ⟨gb247, 0, none⟩ = some (.int .i64 t235) ∧ w33.cell? ⟨gb247, 1, none⟩ = some (.int .i64 8) ∧ w33.cell? ⟨gb247, 2, none⟩ = some (.int .i64 (wrap64 (t237 - 1))) ∧ w33.cell? ⟨gb247, 3, none⟩ = some (.int .i64 0) ∧ w33.cell? ⟨gb247, 4, none⟩ = some (.int .i64 255) ∧ w33.cell? ⟨gb247, 5, none⟩ = some (.int .i64 (wrap64 (t239 - 1))) ∧ w33.cell? ⟨gb247, 6, none⟩ = some (.int .i64 (rd y241 t244)) := hS_
      obtain ⟨co34, eo34⟩ := HA_HO250.out
      clear HA_HO250
      subst eo34
      refine norm_ (a' := ?_) ?_ ?_
      rotate_left
      ·simp only [putAll, Act.put, List.setIfInBounds_toArray, List.set_cons_zero, List.set_cons_succ]
       rfl
      refine pure_ (i := 8) (N := some 26) (v := ?_) (a' := ?_) #[true, true, true, true, true, true, true, true, true, false, false, false] rfl rfl (any_of HT_.out (by kernel_rfl)) (fun _ _ _ h => h) (Or.inl ⟨by rfl, ?_⟩) ?_ ?_
      rotate_left
      ·intro w'
       go_simp
       with_reducible rfl
      rotate_left
      ·simp only [Act.put, List.setIfInBounds_toArray, List.set_cons_zero, List.set_cons_succ, i64_w, i32_w]
       rfl
      refine one_ (i := 9) (N := some 27) #[true, true, true, true, true, true, true, true, true, true, false, false] rfl rfl (one_of HT_.out (by kernel_rfl)) (by decide) (fun K hK => ?_)
      (have p253 : 0 ≤ (t251 : Int) := of_decide_eq_true (by first | (with_reducible assumption) | assumption); have q253 : t251 < (y248.length : Int) := of_decide_eq_true (by first | (with_reducible assumption) | assumption); obtain ⟨ad253, e253, hx253_0⟩ := Kd.at_int (qR HO250.out).2.2 t251 p253 q253; obtain rfl : adz_v249 = ad253 := (by injection e253))
      refine value_ (w1 := ?_) (v := ?_) (by rfl) rfl ?_ ?_
      rotate_left 2
      ·go_simp
       constructor
       ·rfl
       ·rfl
      clear hx253_0
      refine hK.out _ _ ⟨(zC BK247.out 0).trans rfl, (zC BK247.out 1).trans rfl, (zC BK247.out 2).trans rfl, (zC BK247.out 3).trans rfl, (zC BK247.out 4).trans rfl, (zC BK247.out 5).trans rfl, (zC BK247.out 6).trans rfl⟩ (fun hHeld => ?_)
      clear hK K
      refine norm_ (a' := ?_) ?_ ?_
      rotate_left
      ·show Act.put _ (some 27) _ = _
       simp only [Act.put, List.setIfInBounds_toArray, List.set_cons_zero, List.set_cons_succ, i64_w, i32_w]
       rfl
      refine pure_ (i := 10) (N := some 28) (v := ?_) (a' := ?_) #[true, true, true, true, true, true, true, true, true, true, true, false] rfl rfl (any_of HT_.out (by kernel_rfl)) (fun _ _ _ h => h) (Or.inl ⟨by rfl, ?_⟩) ?_ ?_
      rotate_left
      ·intro w'
       go_simp
       with_reducible rfl
      rotate_left
      ·simp only [Act.put, List.setIfInBounds_toArray, List.set_cons_zero, List.set_cons_succ, i64_w, i32_w]
       rfl
      refine last_ (i := 11) (N := none) #[true, true, true, true, true, true, true, true, true, true, true, true] rfl rfl (one_of HT_.out (by kernel_rfl)) (by decide) (fun K hK => ?_)
      have hs35 : w33.cell? ⟨gb247, 1, none⟩ = some (.int .i64 8) := (zC BK247.out 1).trans rfl
      have hfs35 := zF BK247.out 1
      have hns35_0 := NB234_247.out
      have hms35_0 := NB247_234.out
      refine skip_ (w1 := ?_) (by rfl) rfl ?_ ?_
      rotate_left
      ·go_simp
       rfl
      refine hK.out _ _ ?_
      clear hK K
      refine done_ (done_of HT_.out (by kernel_rfl)) ?_
      try go_wp2_with (first | ((with_reducible refine gate_callee (f := 39) rfl ?_); refine goesL_ (some 30) rfl rfl Try.func39 (by kernel_rfl) rfl #[.pointer (some ⟨g, 0, none⟩), .int .i64 2] rfl (by (try simp only [List.map_toArray, List.map_cons, List.map_nil]); first | done | rfl | (simp only [List.length_drop, List.length_take]; rfl)) ?_; (with_reducible refine (spec_l30Rd_pick.calls k g s0_0 t252 2 t254 t255 w0 _ ?side1 ?side2 A11.out).mono ?_); (case side1 => repeat (first | (with_reducible first | exact HI0.out | apply IsS67.alloc | apply IsS67.drewN | apply IsS67.drew | apply IsS67.set_1 | refine IsS67.far ?_ NB0_234.out _ | refine IsS67.far ?_ NB0_247.out _) | exact HI0.out)); (case side2 => repeat (first | (with_reducible first | exact HB.out | apply yA | apply yN | apply yD | refine yS ?_ (IsS67.ge HI0.out) | refine yS ?_ GE234.out | refine yS ?_ GE247.out) | exact HB.out)); rintro e w36 ⟨rfl, hi, hb, hk⟩; refine ⟨_, rfl, ?_⟩; have n0_ := qM (KeepBut.blk hk (g' := gb234) (o := .cells #[.int .i64 0, .int .i64 0, .int .i64 0, .int .i64 0, .int .i64 0, .int .i64 0, .int .i64 0] 46 (0, 0)) (by (with_reducible repeat (first | refine zN ?_ _ | refine zD ?_ | refine zA ?_ _)); refine blk_far ?_ NB234_247.out _; (with_reducible repeat (first | refine zN ?_ _ | refine zD ?_ | refine zA ?_ _)); exact BK234.out) NB234_0.out (by simp)); have n1_ := qM (Kd.R_mono (Kd.R_keep (IsS67.apart (show IsS67 w0 _ g s0_0 t252 from by repeat (first | (with_reducible first | exact HI0.out | apply IsS67.alloc | apply IsS67.drewN | apply IsS67.drew | apply IsS67.set_1 | refine IsS67.far ?_ NB0_234.out _ | refine IsS67.far ?_ NB0_247.out _) | exact HI0.out)) (by (with_reducible repeat (first | apply qA | apply qN | apply qD)); exact (Kd.R_mono (qF (p := ⟨gb247, 1, none⟩) (Kd.R_types HO243.out BK247.out (by decide)) (fun _ hk => hk.2) (.int .i64 (rd y248 t251))) (fun _ h_ => h_.1))) (by decide)) hk (fun _ h => h.2)) (fun _ h => h.1)); have n2_ := qM (KeepBut.blk hk (g' := gb247) (o := .cells #[.int .i64 t235, .int .i64 (rd y248 t251), .int .i64 (wrap64 (t237 - 1)), .int .i64 0, .int .i64 255, .int .i64 (wrap64 (t239 - 1)), .int .i64 (rd y241 t244)] 46 (0, 0)) (by (with_reducible repeat (first | refine zN ?_ _ | refine zD ?_ | refine zA ?_ _)); refine blk_put (cs := #[.int .i64 t235, .int .i64 8, .int .i64 (wrap64 (t237 - 1)), .int .i64 0, .int .i64 255, .int .i64 (wrap64 (t239 - 1)), .int .i64 (rd y241 t244)]) ?_ 1 _ rfl; (with_reducible repeat (first | refine zN ?_ _ | refine zD ?_ | refine zA ?_ _)); exact BK247.out) NB247_0.out (by simp)); have n3_ := qM (Kd.R_mono (Kd.R_keep (IsS67.apart (show IsS67 w0 _ g s0_0 t252 from by repeat (first | (with_reducible first | exact HI0.out | apply IsS67.alloc | apply IsS67.drewN | apply IsS67.drew | apply IsS67.set_1 | refine IsS67.far ?_ NB0_234.out _ | refine IsS67.far ?_ NB0_247.out _) | exact HI0.out)) (by (with_reducible repeat (first | apply qA | apply qN | apply qD)); exact (Kd.R_mono (qF (p := ⟨gb247, 1, none⟩) (Kd.R_types HO250.out BK247.out (by decide)) (fun _ hk => hk.2) (.int .i64 (rd y248 t251))) (fun _ h_ => h_.1))) (by decide)) hk (fun _ h => h.2)) (fun _ h => h.1)); have n4_ := qM (KeepBut.trans (by repeat (first | (with_reducible first | exact HK.out | apply KeepBut.set_ | apply keep_drewN | apply keep_drew | apply keep_alloc | refine keep_far ?_ GW234.out _ | refine keep_far ?_ GW247.out _) | exact HK.out)) hk (.inl rfl)); have n5_ := qM (hb); have n6_ := qM (hi); clear BK234; clear HO243; clear BK247; clear HO250; clear HK; clear HB; clear HI0; have BK234 := n0_; have HO243 := n1_; have BK247 := n2_; have HO250 := n3_; have HK := n4_; have HB := n5_; have HI0 := n6_; clear n0_ n1_ n2_ n3_ n4_ n5_ n6_; (try clear hb); (try clear hb2); (try clear hk); (try clear hi)) | ((with_reducible refine gate_callee (f := 39) rfl ?_); refine goesL_ (some 33) rfl rfl Try.func39 (by kernel_rfl) rfl #[.pointer (some ⟨g, 0, none⟩), .int .i64 128] rfl (by (try simp only [List.map_toArray, List.map_cons, List.map_nil]); first | done | rfl | (simp only [List.length_drop, List.length_take]; rfl)) ?_; (with_reducible refine (spec_l30Rd_pick.calls k g s0_0 t255 128 t256 t257 w0 _ ?side1 ?side2 A13.out).mono ?_); (case side1 => repeat (first | (with_reducible first | exact HI0.out | apply IsS67.alloc | apply IsS67.drewN | apply IsS67.drew | apply IsS67.set_1 | refine IsS67.far ?_ NB0_234.out _ | refine IsS67.far ?_ NB0_247.out _) | exact HI0.out)); (case side2 => repeat (first | (with_reducible first | exact HB.out | apply yA | apply yN | apply yD | refine yS ?_ (IsS67.ge HI0.out) | refine yS ?_ GE234.out | refine yS ?_ GE247.out) | exact HB.out)); rintro e w37 ⟨rfl, hi, hb, hk⟩; refine ⟨_, rfl, ?_⟩; have n0_ := qM (KeepBut.blk hk (g' := gb234) (o := .cells #[.int .i64 0, .int .i64 0, .int .i64 0, .int .i64 0, .int .i64 0, .int .i64 0, .int .i64 0] 46 (0, 0)) (by (with_reducible repeat (first | refine zN ?_ _ | refine zD ?_ | refine zA ?_ _)); exact BK234.out) NB234_0.out (by simp)); have n1_ := qM (Kd.R_mono (Kd.R_keep (IsS67.apart (show IsS67 w0 _ g s0_0 t255 from by repeat (first | (with_reducible first | exact HI0.out | apply IsS67.alloc | apply IsS67.drewN | apply IsS67.drew | apply IsS67.set_1 | refine IsS67.far ?_ NB0_234.out _ | refine IsS67.far ?_ NB0_247.out _) | exact HI0.out)) (by (with_reducible repeat (first | apply qA | apply qN | apply qD)); exact HO243.out) (by decide)) hk (fun _ h => h.2)) (fun _ h => h.1)); have n2_ := qM (KeepBut.blk hk (g' := gb247) (o := .cells #[.int .i64 t235, .int .i64 (rd y248 t251), .int .i64 (wrap64 (t237 - 1)), .int .i64 0, .int .i64 255, .int .i64 (wrap64 (t239 - 1)), .int .i64 (rd y241 t244)] 46 (0, 0)) (by (with_reducible repeat (first | refine zN ?_ _ | refine zD ?_ | refine zA ?_ _)); exact BK247.out) NB247_0.out (by simp)); have n3_ := qM (Kd.R_mono (Kd.R_keep (IsS67.apart (show IsS67 w0 _ g s0_0 t255 from by repeat (first | (with_reducible first | exact HI0.out | apply IsS67.alloc | apply IsS67.drewN | apply IsS67.drew | apply IsS67.set_1 | refine IsS67.far ?_ NB0_234.out _ | refine IsS67.far ?_ NB0_247.out _) | exact HI0.out)) (by (with_reducible repeat (first | apply qA | apply qN | apply qD)); exact HO250.out) (by decide)) hk (fun _ h => h.2)) (fun _ h => h.1)); have n4_ := qM (KeepBut.trans (by repeat (first | (with_reducible first | exact HK.out | apply KeepBut.set_ | apply keep_drewN | apply keep_drew | apply keep_alloc | refine keep_far ?_ GW234.out _ | refine keep_far ?_ GW247.out _) | exact HK.out)) hk (.inl rfl)); have n5_ := qM (hb); have n6_ := qM (hi); clear BK234; clear HO243; clear BK247; clear HO250; clear HK; clear HB; clear HI0; have BK234 := n0_; have HO243 := n1_; have BK247 := n2_; have HO250 := n3_; have HK := n4_; have HB := n5_; have HI0 := n6_; clear n0_ n1_ n2_ n3_ n4_ n5_ n6_; (try clear hb); (try clear hb2); (try clear hk); (try clear hi); have hcz38_0 : w37.cell? ⟨gb247, 0, none⟩ = some (.int .i64 t235) := (zC BK247.out 0).trans rfl; have hcz38_1 : w37.cell? ⟨gb247, 1, none⟩ = some (.int .i64 (rd y248 t251)) := (zC BK247.out 1).trans rfl; have hcz38_2 : w37.cell? ⟨gb247, 2, none⟩ = some (.int .i64 (wrap64 (t237 - 1))) := (zC BK247.out 2).trans rfl; have hcz38_3 : w37.cell? ⟨gb247, 3, none⟩ = some (.int .i64 0) := (zC BK247.out 3).trans rfl; have hcz38_4 : w37.cell? ⟨gb247, 4, none⟩ = some (.int .i64 255) := (zC BK247.out 4).trans rfl; have hcz38_5 : w37.cell? ⟨gb247, 5, none⟩ = some (.int .i64 (wrap64 (t239 - 1))) := (zC BK247.out 5).trans rfl; have hcz38_6 : w37.cell? ⟨gb247, 6, none⟩ = some (.int .i64 (rd y241 t244)) := (zC BK247.out 6).trans rfl; have hfz38_0 := zF BK247.out 0; have hfz38_1 := zF BK247.out 1; have hfz38_2 := zF BK247.out 2; have hfz38_3 := zF BK247.out 3; have hfz38_4 := zF BK247.out 4; have hfz38_5 := zF BK247.out 5; have hfz38_6 := zF BK247.out 6))
      have n0_ : Aside0 (Kd.R (Kd.int .i64) 3 (w37.setCell ⟨gb247, 3, none⟩ (.int .i64 t256)) w.heap.size (fun k_ => some k_ ≠ (.slice (some adz_v249) y248.length co34 : Value).ownBlock) (.slice (some ad246) y241.length co22) y241) := ⟨by (with_reducible repeat (first | apply qA | apply qN | apply qD)); exact Kd.R_mono (qF (p := ⟨gb247, 3, none⟩) (Kd.R_types HO243.out BK247.out (by decide)) (fun _ hk => hk.2) (.int .i64 t256)) (fun _ hk => hk.1)⟩
      have n1_ : Aside0 (Kd.R (Kd.int .i64) 3 (w37.setCell ⟨gb247, 3, none⟩ (.int .i64 t256)) w.heap.size (fun k_ => some k_ ≠ (.slice (some ad246) y241.length co22 : Value).ownBlock) (.slice (some adz_v249) y248.length co34) y248) := ⟨by (with_reducible repeat (first | apply qA | apply qN | apply qD)); exact Kd.R_mono (qF (p := ⟨gb247, 3, none⟩) (Kd.R_types HO250.out BK247.out (by decide)) (fun _ hk => hk.2) (.int .i64 t256)) (fun _ hk => hk.1)⟩
      have n2_ : Aside0 ((w37.setCell ⟨gb247, 3, none⟩ (.int .i64 t256)).heap[gb234]? = some (.cells #[.int .i64 0, .int .i64 0, .int .i64 0, .int .i64 0, .int .i64 0, .int .i64 0, .int .i64 0] 46 (0, 0))) := ⟨by (with_reducible repeat (first | refine zN ?_ _ | refine zD ?_ | refine zA ?_ _)); refine blk_far ?_ NB234_247.out _; (with_reducible repeat (first | refine zN ?_ _ | refine zD ?_ | refine zA ?_ _)); exact BK234.out⟩
      have n3_ : Aside0 ((w37.setCell ⟨gb247, 3, none⟩ (.int .i64 t256)).heap[gb247]? = some (.cells #[.int .i64 t235, .int .i64 (rd y248 t251), .int .i64 (wrap64 (t237 - 1)), .int .i64 t256, .int .i64 255, .int .i64 (wrap64 (t239 - 1)), .int .i64 (rd y241 t244)] 46 (0, 0))) := ⟨by (with_reducible repeat (first | refine zN ?_ _ | refine zD ?_ | refine zA ?_ _)); refine blk_put (cs := #[.int .i64 t235, .int .i64 (rd y248 t251), .int .i64 (wrap64 (t237 - 1)), .int .i64 0, .int .i64 255, .int .i64 (wrap64 (t239 - 1)), .int .i64 (rd y241 t244)]) ?_ 3 _ rfl; (with_reducible repeat (first | refine zN ?_ _ | refine zD ?_ | refine zA ?_ _)); exact BK247.out⟩
      have n4_ : Aside0 (IsS67 w0 (w37.setCell ⟨gb247, 3, none⟩ (.int .i64 t256)) g s0_0 t257) := ⟨by repeat (first | (with_reducible first | exact HI0.out | apply IsS67.alloc | apply IsS67.drewN | apply IsS67.drew | apply IsS67.set_1 | refine IsS67.far ?_ NB0_234.out _ | refine IsS67.far ?_ NB0_247.out _) | exact HI0.out)⟩
      have n5_ : Aside0 (KeepBut w (w37.setCell ⟨gb247, 3, none⟩ (.int .i64 t256)) g none) := ⟨by repeat (first | (with_reducible first | exact HK.out | apply KeepBut.set_ | apply keep_drewN | apply keep_drew | apply keep_alloc | refine keep_far ?_ GW234.out _ | refine keep_far ?_ GW247.out _) | exact HK.out)⟩
      have n6_ : Aside0 (Below w0.heap.size w0 (w37.setCell ⟨gb247, 3, none⟩ (.int .i64 t256))) := ⟨by repeat (first | (with_reducible first | exact HB.out | apply yA | apply yN | apply yD | refine yS ?_ (IsS67.ge HI0.out) | refine yS ?_ GE234.out | refine yS ?_ GE247.out) | exact HB.out)⟩
      (try clear HO243)
      (try clear HO250)
      (try clear BK234)
      (try clear BK247)
      (try clear HI0)
      (try clear HK)
      (try clear HB)
      generalize (w37.setCell ⟨gb247, 3, none⟩ (.int .i64 t256)) = w39 at n0_ n1_ n2_ n3_ n4_ n5_ n6_ ⊢
      have HO243 := n0_
      have HO250 := n1_
      have BK234 := n2_
      have BK247 := n3_
      have HI0 := n4_
      have HK := n5_
      have HB := n6_
      clear n0_ n1_ n2_ n3_ n4_ n5_ n6_
      have n0_ := qM (qD HO243.out)
      have n1_ := qM (qD HO250.out)
      have n2_ := qM (zD BK234.out)
      have n3_ := qM (zD BK247.out)
      have n4_ := qM (IsS67.drew HI0.out)
      have n5_ := qM (keep_drew HK.out)
      have n6_ := qM (yD HB.out)
      clear HO243
      clear HO250
      clear BK234
      clear BK247
      clear HI0
      clear HK
      clear HB
      have HO243 := n0_
      have HO250 := n1_
      have BK234 := n2_
      have BK247 := n3_
      have HI0 := n4_
      have HK := n5_
      have HB := n6_
      clear n0_ n1_ n2_ n3_ n4_ n5_ n6_
      refine start_ (n := 7) (S := fun w' => w'.cell? ⟨gb247, 0, none⟩ = some (.int .i64 t235) ∧ w'.cell? ⟨gb247, 1, none⟩ = some (.int .i64 (rd y248 t251)) ∧ w'.cell? ⟨gb247, 2, none⟩ = some (.int .i64 (wrap64 (t237 - 1))) ∧ w'.cell? ⟨gb247, 3, none⟩ = some (.int .i64 t256) ∧ w'.cell? ⟨gb247, 4, none⟩ = some (.int .i64 255) ∧ w'.cell? ⟨gb247, 5, none⟩ = some (.int .i64 (wrap64 (t239 - 1))) ∧ w'.cell? ⟨gb247, 6, none⟩ = some (.int .i64 (rd y241 t244))) (ds := [6]) #[false, false, false, false, false, false, false] (by kernel_rfl) rfl rfl ⟨(zC BK247.out 0).trans rfl, (zC BK247.out 1).trans rfl, (zC BK247.out 2).trans rfl, (zC BK247.out 3).trans rfl, (zC BK247.out 4).trans rfl, (zC BK247.out 5).trans rfl, (zC BK247.out 6).trans rfl⟩ (fun hHeld => ?_)
      generalize w39.drew = w40 at HO243 HO250 BK234 BK247 HI0 HK HB hHeld ⊢
      refine pure_ (i := 0) (N := some 35) (v := ?_) (a' := ?_) #[true, false, false, false, false, false, false] rfl rfl (by kernel_rfl) (fun _ _ _ h => h) (Or.inl ⟨by rfl, ?_⟩) ?_ ?_
      rotate_left
      ·intro w'
       go_simp
       with_reducible rfl
      rotate_left
      ·simp only [Act.put, List.setIfInBounds_toArray, List.set_cons_zero, List.set_cons_succ, i64_w, i32_w]
       rfl
      refine pure_ (i := 2) (N := some 37) (v := ?_) (a' := ?_) #[true, false, true, false, false, false, false] rfl rfl (by kernel_rfl) (fun _ _ _ h => h) (Or.inl ⟨by rfl, ?_⟩) ?_ ?_
      rotate_left
      ·intro w'
       go_simp
       with_reducible rfl
      rotate_left
      ·simp only [Act.put, List.setIfInBounds_toArray, List.set_cons_zero, List.set_cons_succ, i64_w, i32_w]
       rfl
      refine take_ (i := 1) (N := some 36) (v := ?_) (a' := ?_) #[true, true, true, false, false, false, false] rfl rfl (by kernel_rfl) (fun _ _ _ h => h) (Or.inl ⟨by rfl, ?_⟩) hHeld ?_ ?_
      rotate_left
      ·rintro w' ⟨s0, s1, s2, s3, s4, s5, s6⟩
       go_simp
       with_reducible rfl
      rotate_left
      ·simp only [Act.put, List.setIfInBounds_toArray, List.set_cons_zero, List.set_cons_succ, i64_w, i32_w]
       rfl
      refine one_ (i := 3) (N := some 38) #[true, true, true, true, false, false, false] rfl rfl (by kernel_rfl) (by decide) (fun K hK => ?_)
      refine goes_ Try.func39 (by kernel_rfl) rfl #[.pointer (some ⟨g, 0, none⟩), .int .i64 128] (by rfl) rfl rfl (by (try simp only [List.map_toArray, List.map_cons, List.map_nil]); first | done | rfl | (simp only [List.length_drop, List.length_take]; rfl)) ?_
      with_reducible refine (spec_l30Rd_pick.calls k g s0_0 t257 128 t258 t259 w0 _ ?side1 ?side2 A14.out).mono ?_
      (case side1 => repeat (first | (with_reducible first | exact HI0.out | apply IsS67.alloc | apply IsS67.drewN | apply IsS67.drew | apply IsS67.set_1 | refine IsS67.far ?_ NB0_234.out _ | refine IsS67.far ?_ NB0_247.out _) | exact HI0.out))
      (case side2 => repeat (first | (with_reducible first | exact HB.out | apply yA | apply yN | apply yD | refine yS ?_ (IsS67.ge HI0.out) | refine yS ?_ GE234.out | refine yS ?_ GE247.out) | exact HB.out))
      rintro e w41 ⟨rfl, hi, hb, hk⟩
      refine ⟨_, rfl, ?_⟩
      have n0_ := qM (KeepBut.blk hk (g' := gb234) (o := .cells #[.int .i64 0, .int .i64 0, .int .i64 0, .int .i64 0, .int .i64 0, .int .i64 0, .int .i64 0] 46 (0, 0)) (by (with_reducible repeat (first | refine zN ?_ _ | refine zD ?_ | refine zA ?_ _)); exact BK234.out) NB234_0.out (by simp))
      have n1_ := qM (Kd.R_mono (Kd.R_keep (IsS67.apart (show IsS67 w0 _ g s0_0 t257 from by repeat (first | (with_reducible first | exact HI0.out | apply IsS67.alloc | apply IsS67.drewN | apply IsS67.drew | apply IsS67.set_1 | refine IsS67.far ?_ NB0_234.out _ | refine IsS67.far ?_ NB0_247.out _) | exact HI0.out)) (by (with_reducible repeat (first | apply qA | apply qN | apply qD)); exact HO243.out) (by decide)) hk (fun _ h => h.2)) (fun _ h => h.1))
      have n2_ := qM (KeepBut.blk hk (g' := gb247) (o := .cells #[.int .i64 t235, .int .i64 (rd y248 t251), .int .i64 (wrap64 (t237 - 1)), .int .i64 t256, .int .i64 255, .int .i64 (wrap64 (t239 - 1)), .int .i64 (rd y241 t244)] 46 (0, 0)) (by (with_reducible repeat (first | refine zN ?_ _ | refine zD ?_ | refine zA ?_ _)); exact BK247.out) NB247_0.out (by simp))
      have n3_ := qM (Kd.R_mono (Kd.R_keep (IsS67.apart (show IsS67 w0 _ g s0_0 t257 from by repeat (first | (with_reducible first | exact HI0.out | apply IsS67.alloc | apply IsS67.drewN | apply IsS67.drew | apply IsS67.set_1 | refine IsS67.far ?_ NB0_234.out _ | refine IsS67.far ?_ NB0_247.out _) | exact HI0.out)) (by (with_reducible repeat (first | apply qA | apply qN | apply qD)); exact HO250.out) (by decide)) hk (fun _ h => h.2)) (fun _ h => h.1))
      have n4_ := qM (KeepBut.trans (by repeat (first | (with_reducible first | exact HK.out | apply KeepBut.set_ | apply keep_drewN | apply keep_drew | apply keep_alloc | refine keep_far ?_ GW234.out _ | refine keep_far ?_ GW247.out _) | exact HK.out)) hk (.inl rfl))
      have n5_ := qM (hb)
      have n6_ := qM (hi)
      clear BK234
      clear HO243
      clear BK247
      clear HO250
      clear HK
      clear HB
      clear HI0
      have BK234 := n0_
      have HO243 := n1_
      have BK247 := n2_
      have HO250 := n3_
      have HK := n4_
      have HB := n5_
      have HI0 := n6_
      clear n0_ n1_ n2_ n3_ n4_ n5_ n6_
      (try clear hb)
      (try clear hb2)
      (try clear hk)
      (try clear hi)
      refine hK.out _ _ ⟨(zC BK247.out 0).trans rfl, (zC BK247.out 1).trans rfl, (zC BK247.out 2).trans rfl, (zC BK247.out 3).trans rfl, (zC BK247.out 4).trans rfl, (zC BK247.out 5).trans rfl, (zC BK247.out 6).trans rfl⟩ (fun hHeld => ?_)
      clear hK K
      refine norm_ (a' := ?_) ?_ ?_
      rotate_left
      ·show Act.put _ (some 38) _ = _
       simp only [Act.put, List.setIfInBounds_toArray, List.set_cons_zero, List.set_cons_succ, i64_w, i32_w]
       rfl
      refine pure_ (i := 4) (N := some 39) (v := ?_) (a' := ?_) #[true, true, true, true, true, false, false] rfl rfl (by kernel_rfl) (fun _ _ _ h => h) (Or.inl ⟨by rfl, ?_⟩) ?_ ?_
      rotate_left
      ·intro w'
       go_simp
       with_reducible rfl
      rotate_left
      ·simp only [Act.put, List.setIfInBounds_toArray, List.set_cons_zero, List.set_cons_succ, i64_w, i32_w]
       rfl
      refine pure_ (i := 5) (N := some 40) (v := ?_) (a' := ?_) #[true, true, true, true, true, true, false] rfl rfl (by kernel_rfl) (fun _ _ _ h => h) (Or.inl ⟨by rfl, ?_⟩) ?_ ?_
      rotate_left
      ·intro w'
       go_simp
       with_reducible rfl
      rotate_left
      ·simp only [Act.put, List.setIfInBounds_toArray, List.set_cons_zero, List.set_cons_succ, i64_w, i32_w]
       rfl
      refine last_ (i := 6) (N := none) #[true, true, true, true, true, true, true] rfl rfl (by kernel_rfl) (by decide) (fun K hK => ?_)
      have hs42 : w41.cell? ⟨gb247, 4, none⟩ = some (.int .i64 255) := (zC BK247.out 4).trans rfl
      have hfs42 := zF BK247.out 4
      have hns42_0 := NB234_247.out
      have hms42_0 := NB247_234.out
      refine skip_ (w1 := ?_) (by rfl) rfl ?_ ?_
      rotate_left
      ·go_simp
       rfl
      refine hK.out _ _ ?_
      clear hK K
      refine done_ (by kernel_rfl) ?_
      have hcz43_0 : w41.cell? ⟨gb247, 0, none⟩ = some (.int .i64 t235) := (zC BK247.out 0).trans rfl
      have hcz43_1 : w41.cell? ⟨gb247, 1, none⟩ = some (.int .i64 (rd y248 t251)) := (zC BK247.out 1).trans rfl
      have hcz43_2 : w41.cell? ⟨gb247, 2, none⟩ = some (.int .i64 (wrap64 (t237 - 1))) := (zC BK247.out 2).trans rfl
      have hcz43_3 : w41.cell? ⟨gb247, 3, none⟩ = some (.int .i64 t256) := (zC BK247.out 3).trans rfl
      have hcz43_4 : w41.cell? ⟨gb247, 4, none⟩ = some (.int .i64 255) := (zC BK247.out 4).trans rfl
      have hcz43_5 : w41.cell? ⟨gb247, 5, none⟩ = some (.int .i64 (wrap64 (t239 - 1))) := (zC BK247.out 5).trans rfl
      have hcz43_6 : w41.cell? ⟨gb247, 6, none⟩ = some (.int .i64 (rd y241 t244)) := (zC BK247.out 6).trans rfl
      have hfz43_0 := zF BK247.out 0
      have hfz43_1 := zF BK247.out 1
      have hfz43_2 := zF BK247.out 2
      have hfz43_3 := zF BK247.out 3
      have hfz43_4 := zF BK247.out 4
      have hfz43_5 := zF BK247.out 5
      have hfz43_6 := zF BK247.out 6
      have hnb44 := NB234_0.out
      have hnc44 := NB0_234.out
      have hcz45_0 : w41.cell? ⟨gb234, 0, none⟩ = some (.int .i64 0) := (zC BK234.out 0).trans rfl
      have hcz45_1 : w41.cell? ⟨gb234, 1, none⟩ = some (.int .i64 0) := (zC BK234.out 1).trans rfl
      have hcz45_2 : w41.cell? ⟨gb234, 2, none⟩ = some (.int .i64 0) := (zC BK234.out 2).trans rfl
      have hcz45_3 : w41.cell? ⟨gb234, 3, none⟩ = some (.int .i64 0) := (zC BK234.out 3).trans rfl
      have hcz45_4 : w41.cell? ⟨gb234, 4, none⟩ = some (.int .i64 0) := (zC BK234.out 4).trans rfl
      have hcz45_5 : w41.cell? ⟨gb234, 5, none⟩ = some (.int .i64 0) := (zC BK234.out 5).trans rfl
      have hcz45_6 : w41.cell? ⟨gb234, 6, none⟩ = some (.int .i64 0) := (zC BK234.out 6).trans rfl
      have hfz45_0 := zF BK234.out 0
      have hfz45_1 := zF BK234.out 1
      have hfz45_2 := zF BK234.out 2
      have hfz45_3 := zF BK234.out 3
      have hfz45_4 := zF BK234.out 4
      have hfz45_5 := zF BK234.out 5
      have hfz45_6 := zF BK234.out 6
      try go_wp2
      refine bodyPost_ret (results_cell_row rfl _ _ gb234 46 #[.int .i64 t235, .int .i64 (rd y248 t251), .int .i64 (wrap64 (t237 - 1)), .int .i64 t256, .int .i64 (wrap64 (t256 + t258)), .int .i64 (wrap64 (t239 - 1)), .int .i64 (rd y241 t244)] (0, 0) _ rfl (by (with_reducible repeat (first | refine zN ?_ _ | refine zD ?_ | refine zA ?_ _)); refine blk_put (cs := #[.int .i64 t235, .int .i64 (rd y248 t251), .int .i64 (wrap64 (t237 - 1)), .int .i64 t256, .int .i64 (wrap64 (t256 + t258)), .int .i64 (wrap64 (t239 - 1)), .int .i64 0]) ?_ 6 _ rfl; (with_reducible repeat (first | refine zN ?_ _ | refine zD ?_ | refine zA ?_ _)); refine blk_put (cs := #[.int .i64 t235, .int .i64 (rd y248 t251), .int .i64 (wrap64 (t237 - 1)), .int .i64 t256, .int .i64 (wrap64 (t256 + t258)), .int .i64 0, .int .i64 0]) ?_ 5 _ rfl; (with_reducible repeat (first | refine zN ?_ _ | refine zD ?_ | refine zA ?_ _)); refine blk_put (cs := #[.int .i64 t235, .int .i64 (rd y248 t251), .int .i64 (wrap64 (t237 - 1)), .int .i64 t256, .int .i64 0, .int .i64 0, .int .i64 0]) ?_ 4 _ rfl; (with_reducible repeat (first | refine zN ?_ _ | refine zD ?_ | refine zA ?_ _)); refine blk_put (cs := #[.int .i64 t235, .int .i64 (rd y248 t251), .int .i64 (wrap64 (t237 - 1)), .int .i64 0, .int .i64 0, .int .i64 0, .int .i64 0]) ?_ 3 _ rfl; (with_reducible repeat (first | refine zN ?_ _ | refine zD ?_ | refine zA ?_ _)); refine blk_put (cs := #[.int .i64 t235, .int .i64 (rd y248 t251), .int .i64 0, .int .i64 0, .int .i64 0, .int .i64 0, .int .i64 0]) ?_ 2 _ rfl; (with_reducible repeat (first | refine zN ?_ _ | refine zD ?_ | refine zA ?_ _)); refine blk_put (cs := #[.int .i64 t235, .int .i64 0, .int .i64 0, .int .i64 0, .int .i64 0, .int .i64 0, .int .i64 0]) ?_ 1 _ rfl; (with_reducible repeat (first | refine zN ?_ _ | refine zD ?_ | refine zA ?_ _)); refine blk_put (cs := #[.int .i64 0, .int .i64 0, .int .i64 0, .int .i64 0, .int .i64 0, .int .i64 0, .int .i64 0]) ?_ 0 _ rfl; (with_reducible repeat (first | refine zN ?_ _ | refine zD ?_ | refine zA ?_ _)); refine blk_far ?_ NB234_247.out _; (with_reducible repeat (first | refine zN ?_ _ | refine zD ?_ | refine zA ?_ _)); exact BK234.out) Try.underlying46 rfl (by kernel_rfl)) rfl ?_
      exact ⟨by first | rfl | (simp [errW_none, errW_some] <;> rfl) | (simp [*, errW_none, errW_some] <;> rfl), by repeat (first | (with_reducible first | exact HI0.out | apply IsS67.alloc | apply IsS67.drewN | apply IsS67.drew | apply IsS67.set_1 | refine IsS67.far ?_ NB0_234.out _ | refine IsS67.far ?_ NB0_247.out _) | exact HI0.out), by repeat (first | (with_reducible first | exact HB.out | apply yA | apply yN | apply yD | refine yS ?_ (IsS67.ge HI0.out) | refine yS ?_ GE234.out | refine yS ?_ GE247.out) | exact HB.out), by repeat (first | (with_reducible first | exact HK.out | apply KeepBut.set_ | apply keep_drewN | apply keep_drew | apply keep_alloc | refine keep_far ?_ GW234.out _ | refine keep_far ?_ GW247.out _) | exact HK.out)⟩
     ·rw [if_neg c12] at H
      have c12b0 : (t254 == 0) = false := beq_eq_false_iff_ne.mpr c12
      have c12b1 : (t254 != 0) = true := bne_iff_ne.mpr c12
      simp only [Option.some.injEq, Prod.mk.injEq] at H
      obtain ⟨rfl, rfl, rfl, rfl, rfl, rfl, rfl, rfl⟩ := H
      go_enter Try.func49, Try.ntmps49
      try go_wp2_with (first | ((with_reducible refine gate_dst (N := 2) rfl ?_); refine box_event ?hg (N := 2) ?hd (cs := #[.int .i64 0, .int .i64 0, .int .i64 0, .int .i64 0, .int .i64 0, .int .i64 0, .int .i64 0]) (t := 46) ?hr ?_; (case hd => rfl); (case hg => rfl); (case hr => first | (go_simp; done) | (go_simp; rfl)); intro gb234 hg w46 hbox hb; have n0_ := qM (IsS67.below (by repeat (first | (with_reducible first | exact HI0.out | apply IsS67.alloc | apply IsS67.drewN | apply IsS67.drew | apply IsS67.set_1) | exact HI0.out)) hb); have n1_ := qM (KeepBut.trans (by repeat (first | (with_reducible first | exact HK.out | apply KeepBut.set_ | apply keep_drewN | apply keep_drew | apply keep_alloc) | exact HK.out)) (KeepBut.of_below hb g none) (.inl rfl)); have n2_ := qM (below_step (by repeat (first | (with_reducible first | exact HB.out | apply yA | apply yN | apply yD | refine yS ?_ (IsS67.ge HI0.out)) | exact HB.out)) hb); have n3_ := qM (hbox); have n4_ := qM ((by rw [hg]; exact (keep_size (w := w) (g := g) (row := none) (by repeat (first | (with_reducible first | exact HK.out | apply KeepBut.set_ | apply keep_drewN | apply keep_drew | apply keep_alloc) | exact HK.out))) : w.heap.size ≤ gb234)); have n5_ := qM ((Nat.le_trans HW0.out (by rw [hg]; exact (keep_size (w := w) (g := g) (row := none) (by repeat (first | (with_reducible first | exact HK.out | apply KeepBut.set_ | apply keep_drewN | apply keep_drew | apply keep_alloc) | exact HK.out))) : w.heap.size ≤ gb234) : w0.heap.size ≤ gb234)); have n6_ := qM ((by rw [hg]; exact Nat.ne_of_lt (IsS67.lt (show IsS67 w0 _ g s0_0 s0_1 from by repeat (first | (with_reducible first | exact HI0.out | apply IsS67.alloc | apply IsS67.drewN | apply IsS67.drew | apply IsS67.set_1) | exact HI0.out))) : g ≠ gb234)); have n7_ := qM ((by rw [hg]; exact Nat.ne_of_gt (IsS67.lt (show IsS67 w0 _ g s0_0 s0_1 from by repeat (first | (with_reducible first | exact HI0.out | apply IsS67.alloc | apply IsS67.drewN | apply IsS67.drew | apply IsS67.set_1) | exact HI0.out))) : gb234 ≠ g)); clear HI0; clear HK; clear HB; have HI0 := n0_; have HK := n1_; have HB := n2_; have BK234 := n3_; have GW234 := n4_; have GE234 := n5_; have NB0_234 := n6_; have NB234_0 := n7_; clear n0_ n1_ n2_ n3_ n4_ n5_ n6_ n7_; clear hb hbox hg) | ((with_reducible refine gate_callee (f := 39) rfl ?_); refine goesL_ (some 5) rfl rfl Try.func39 (by kernel_rfl) rfl #[.pointer (some ⟨g, 0, none⟩), .int .i64 3] rfl (by (try simp only [List.map_toArray, List.map_cons, List.map_nil]); first | done | rfl | (simp only [List.length_drop, List.length_take]; rfl)) ?_; (with_reducible refine (spec_l30Rd_pick.calls k g s0_0 s0_1 3 t235 t236 w0 _ ?side1 ?side2 A2.out).mono ?_); (case side1 => repeat (first | (with_reducible first | exact HI0.out | apply IsS67.alloc | apply IsS67.drewN | apply IsS67.drew | apply IsS67.set_1 | refine IsS67.far ?_ NB0_234.out _) | exact HI0.out)); (case side2 => repeat (first | (with_reducible first | exact HB.out | apply yA | apply yN | apply yD | refine yS ?_ (IsS67.ge HI0.out) | refine yS ?_ GE234.out) | exact HB.out)); rintro e w47 ⟨rfl, hi, hb, hk⟩; refine ⟨_, rfl, ?_⟩; have n0_ := qM (KeepBut.blk hk (g' := gb234) (o := .cells #[.int .i64 0, .int .i64 0, .int .i64 0, .int .i64 0, .int .i64 0, .int .i64 0, .int .i64 0] 46 (0, 0)) (by (with_reducible repeat (first | refine zN ?_ _ | refine zD ?_ | refine zA ?_ _)); exact BK234.out) NB234_0.out (by simp)); have n1_ := qM (KeepBut.trans (by repeat (first | (with_reducible first | exact HK.out | apply KeepBut.set_ | apply keep_drewN | apply keep_drew | apply keep_alloc | refine keep_far ?_ GW234.out _) | exact HK.out)) hk (.inl rfl)); have n2_ := qM (hb); have n3_ := qM (hi); clear BK234; clear HK; clear HB; clear HI0; have BK234 := n0_; have HK := n1_; have HB := n2_; have HI0 := n3_; clear n0_ n1_ n2_ n3_; (try clear hb); (try clear hb2); (try clear hk); (try clear hi)) | ((with_reducible refine gate_callee (f := 39) rfl ?_); refine goesL_ (some 7) rfl rfl Try.func39 (by kernel_rfl) rfl #[.pointer (some ⟨g, 0, none⟩), .int .i64 4] rfl (by (try simp only [List.map_toArray, List.map_cons, List.map_nil]); first | done | rfl | (simp only [List.length_drop, List.length_take]; rfl)) ?_; (with_reducible refine (spec_l30Rd_pick.calls k g s0_0 t236 4 t237 t238 w0 _ ?side1 ?side2 A3.out).mono ?_); (case side1 => repeat (first | (with_reducible first | exact HI0.out | apply IsS67.alloc | apply IsS67.drewN | apply IsS67.drew | apply IsS67.set_1 | refine IsS67.far ?_ NB0_234.out _) | exact HI0.out)); (case side2 => repeat (first | (with_reducible first | exact HB.out | apply yA | apply yN | apply yD | refine yS ?_ (IsS67.ge HI0.out) | refine yS ?_ GE234.out) | exact HB.out)); rintro e w48 ⟨rfl, hi, hb, hk⟩; refine ⟨_, rfl, ?_⟩; have n0_ := qM (KeepBut.blk hk (g' := gb234) (o := .cells #[.int .i64 0, .int .i64 0, .int .i64 0, .int .i64 0, .int .i64 0, .int .i64 0, .int .i64 0] 46 (0, 0)) (by (with_reducible repeat (first | refine zN ?_ _ | refine zD ?_ | refine zA ?_ _)); exact BK234.out) NB234_0.out (by simp)); have n1_ := qM (KeepBut.trans (by repeat (first | (with_reducible first | exact HK.out | apply KeepBut.set_ | apply keep_drewN | apply keep_drew | apply keep_alloc | refine keep_far ?_ GW234.out _) | exact HK.out)) hk (.inl rfl)); have n2_ := qM (hb); have n3_ := qM (hi); clear BK234; clear HK; clear HB; clear HI0; have BK234 := n0_; have HK := n1_; have HB := n2_; have HI0 := n3_; clear n0_ n1_ n2_ n3_; (try clear hb); (try clear hb2); (try clear hk); (try clear hi)) | ((with_reducible refine gate_callee (f := 39) rfl ?_); refine goesL_ (some 10) rfl rfl Try.func39 (by kernel_rfl) rfl #[.pointer (some ⟨g, 0, none⟩), .int .i64 5] rfl (by (try simp only [List.map_toArray, List.map_cons, List.map_nil]); first | done | rfl | (simp only [List.length_drop, List.length_take]; rfl)) ?_; (with_reducible refine (spec_l30Rd_pick.calls k g s0_0 t238 5 t239 t240 w0 _ ?side1 ?side2 A4.out).mono ?_); (case side1 => repeat (first | (with_reducible first | exact HI0.out | apply IsS67.alloc | apply IsS67.drewN | apply IsS67.drew | apply IsS67.set_1 | refine IsS67.far ?_ NB0_234.out _) | exact HI0.out)); (case side2 => repeat (first | (with_reducible first | exact HB.out | apply yA | apply yN | apply yD | refine yS ?_ (IsS67.ge HI0.out) | refine yS ?_ GE234.out) | exact HB.out)); rintro e w49 ⟨rfl, hi, hb, hk⟩; refine ⟨_, rfl, ?_⟩; have n0_ := qM (KeepBut.blk hk (g' := gb234) (o := .cells #[.int .i64 0, .int .i64 0, .int .i64 0, .int .i64 0, .int .i64 0, .int .i64 0, .int .i64 0] 46 (0, 0)) (by (with_reducible repeat (first | refine zN ?_ _ | refine zD ?_ | refine zA ?_ _)); exact BK234.out) NB234_0.out (by simp)); have n1_ := qM (KeepBut.trans (by repeat (first | (with_reducible first | exact HK.out | apply KeepBut.set_ | apply keep_drewN | apply keep_drew | apply keep_alloc | refine keep_far ?_ GW234.out _) | exact HK.out)) hk (.inl rfl)); have n2_ := qM (hb); have n3_ := qM (hi); clear BK234; clear HK; clear HB; clear HI0; have BK234 := n0_; have HK := n1_; have HB := n2_; have HI0 := n3_; clear n0_ n1_ n2_ n3_; (try clear hb); (try clear hb2); (try clear hk); (try clear hi)) | ((with_reducible refine gate_dst (N := 12) rfl ?_); refine Kd.R_lit (Kd.int .i64) _ 3 ?hg (N := 12) ?hd (xs := ([8, 8, 0, 1, 3] : List Int)) (inner := [.int .i64 8, .int .i64 8, .int .i64 0, .int .i64 1, .int .i64 3]) (ok := fun _ => True) (okp := fun _ => True) ?hr ?hp (fun _ hk => hk) trivial (Below.refl _ _) (Nat.le_refl _) (by simp) ?_; (case hd => rfl); (case hg => rfl); (case hr => first | (go_simp; done) | (go_simp; rfl)); (case hp => exact (Reps.one (show Kd.M (Kd.int .i64) _ _ _ 8 [.int .i64 8] from rfl) (Reps.one (show Kd.M (Kd.int .i64) _ _ _ 8 [.int .i64 8] from rfl) (Reps.one (show Kd.M (Kd.int .i64) _ _ _ 0 [.int .i64 0] from rfl) (Reps.one (show Kd.M (Kd.int .i64) _ _ _ 1 [.int .i64 1] from rfl) (Reps.one (show Kd.M (Kd.int .i64) _ _ _ 3 [.int .i64 3] from rfl) (Reps.none _ _))))))); intro v242 w50 ho51 hb hg_ hnew_; clear hg_ hnew_; (first | rw [← Ny241.out] at ho51 | (simp only [Int.reduceToNat] at ho51; rw [← Ny241.out] at ho51)); have n0_ := qM (Kd.R_lower ho51 (keep_size (w := w) (g := g) (row := none) (by repeat (first | (with_reducible first | exact HK.out | apply KeepBut.set_ | apply keep_drewN | apply keep_drew | apply keep_alloc | refine keep_far ?_ GW234.out _) | exact HK.out)))); have n1_ := qM (IsS67.below (by repeat (first | (with_reducible first | exact HI0.out | apply IsS67.alloc | apply IsS67.drewN | apply IsS67.drew | apply IsS67.set_1 | refine IsS67.far ?_ NB0_234.out _) | exact HI0.out)) hb); have n2_ := qM (blk_below (g := gb234) (o := .cells #[.int .i64 0, .int .i64 0, .int .i64 0, .int .i64 0, .int .i64 0, .int .i64 0, .int .i64 0] 46 (0, 0)) (by (with_reducible repeat (first | refine zN ?_ _ | refine zD ?_ | refine zA ?_ _)); exact BK234.out) hb); have n3_ := qM (KeepBut.trans (by repeat (first | (with_reducible first | exact HK.out | apply KeepBut.set_ | apply keep_drewN | apply keep_drew | apply keep_alloc | refine keep_far ?_ GW234.out _) | exact HK.out)) (KeepBut.of_below hb g none) (.inl rfl)); have n4_ := qM (below_step (by repeat (first | (with_reducible first | exact HB.out | apply yA | apply yN | apply yD | refine yS ?_ (IsS67.ge HI0.out) | refine yS ?_ GE234.out) | exact HB.out)) hb); clear HI0; clear BK234; clear HK; clear HB; have HO243 := n0_; have HI0 := n1_; have BK234 := n2_; have HK := n3_; have HB := n4_; clear n0_ n1_ n2_ n3_ n4_; clear hb ho51) | ((with_reducible refine gate_callee (f := 39) rfl ?_); refine goesL_ (some 14) rfl rfl Try.func39 (by kernel_rfl) rfl #[.pointer (some ⟨g, 0, none⟩), .int .i64 5] rfl (by (try simp only [List.map_toArray, List.map_cons, List.map_nil]); first | done | rfl | (simp only [List.length_drop, List.length_take]; rfl)) ?_; (with_reducible refine (spec_l30Rd_pick.calls k g s0_0 t240 5 t244 t245 w0 _ ?side1 ?side2 A5.out).mono ?_); (case side1 => repeat (first | (with_reducible first | exact HI0.out | apply IsS67.alloc | apply IsS67.drewN | apply IsS67.drew | apply IsS67.set_1 | refine IsS67.far ?_ NB0_234.out _) | exact HI0.out)); (case side2 => repeat (first | (with_reducible first | exact HB.out | apply yA | apply yN | apply yD | refine yS ?_ (IsS67.ge HI0.out) | refine yS ?_ GE234.out) | exact HB.out)); rintro e w52 ⟨rfl, hi, hb, hk⟩; refine ⟨_, rfl, ?_⟩; have n0_ := qM (KeepBut.blk hk (g' := gb234) (o := .cells #[.int .i64 0, .int .i64 0, .int .i64 0, .int .i64 0, .int .i64 0, .int .i64 0, .int .i64 0] 46 (0, 0)) (by (with_reducible repeat (first | refine zN ?_ _ | refine zD ?_ | refine zA ?_ _)); exact BK234.out) NB234_0.out (by simp)); have n1_ := qM (Kd.R_mono (Kd.R_keep (IsS67.apart (show IsS67 w0 _ g s0_0 t240 from by repeat (first | (with_reducible first | exact HI0.out | apply IsS67.alloc | apply IsS67.drewN | apply IsS67.drew | apply IsS67.set_1 | refine IsS67.far ?_ NB0_234.out _) | exact HI0.out)) (by (with_reducible repeat (first | apply qA | apply qN | apply qD)); exact HO243.out) (by decide)) hk (fun _ h => h.2)) (fun _ h => h.1)); have n2_ := qM (KeepBut.trans (by repeat (first | (with_reducible first | exact HK.out | apply KeepBut.set_ | apply keep_drewN | apply keep_drew | apply keep_alloc | refine keep_far ?_ GW234.out _) | exact HK.out)) hk (.inl rfl)); have n3_ := qM (hb); have n4_ := qM (hi); clear BK234; clear HO243; clear HK; clear HB; clear HI0; have BK234 := n0_; have HO243 := n1_; have HK := n2_; have HB := n3_; have HI0 := n4_; clear n0_ n1_ n2_ n3_ n4_; (try clear hb); (try clear hb2); (try clear hk); (try clear hi); obtain ⟨Ao53, co53, eo53⟩ := Kd.R_slice HO243.out; subst eo53; have p246 : 0 ≤ (t244 : Int) := of_decide_eq_true (by first | (with_reducible assumption) | assumption); have q246 : t244 < (y241.length : Int) := of_decide_eq_true (by first | (with_reducible assumption) | assumption); obtain ⟨ad246, e246, hx246_0⟩ := Kd.at_int (qR HO243.out).2.2 t244 p246 q246; cases e246; replace p246 := eq_true p246; replace q246 := eq_true q246) | ((with_reducible refine gate_dst (N := 3) rfl ?_); refine box_event ?hg (N := 3) ?hd (cs := #[.int .i64 0, .int .i64 0, .int .i64 0, .int .i64 0, .int .i64 0, .int .i64 0, .int .i64 0]) (t := 46) ?hr ?_; (case hd => rfl); (case hg => rfl); (case hr => first | (go_simp; done) | (go_simp; rfl)); intro gb247 hg w54 hbox hb; have n0_ := qM (Kd.R_below (by (with_reducible repeat (first | apply qA | apply qN | apply qD)); exact HO243.out) hb); have n1_ := qM (IsS67.below (by repeat (first | (with_reducible first | exact HI0.out | apply IsS67.alloc | apply IsS67.drewN | apply IsS67.drew | apply IsS67.set_1 | refine IsS67.far ?_ NB0_234.out _) | exact HI0.out)) hb); have n2_ := qM (blk_below (g := gb234) (o := .cells #[.int .i64 0, .int .i64 0, .int .i64 0, .int .i64 0, .int .i64 0, .int .i64 0, .int .i64 0] 46 (0, 0)) (by (with_reducible repeat (first | refine zN ?_ _ | refine zD ?_ | refine zA ?_ _)); exact BK234.out) hb); have n3_ := qM (KeepBut.trans (by repeat (first | (with_reducible first | exact HK.out | apply KeepBut.set_ | apply keep_drewN | apply keep_drew | apply keep_alloc | refine keep_far ?_ GW234.out _) | exact HK.out)) (KeepBut.of_below hb g none) (.inl rfl)); have n4_ := qM (below_step (by repeat (first | (with_reducible first | exact HB.out | apply yA | apply yN | apply yD | refine yS ?_ (IsS67.ge HI0.out) | refine yS ?_ GE234.out) | exact HB.out)) hb); have n5_ := qM (hbox); have n6_ := qM ((by rw [hg]; exact (keep_size (w := w) (g := g) (row := none) (by repeat (first | (with_reducible first | exact HK.out | apply KeepBut.set_ | apply keep_drewN | apply keep_drew | apply keep_alloc | refine keep_far ?_ GW234.out _) | exact HK.out))) : w.heap.size ≤ gb247)); have n7_ := qM ((Nat.le_trans HW0.out (by rw [hg]; exact (keep_size (w := w) (g := g) (row := none) (by repeat (first | (with_reducible first | exact HK.out | apply KeepBut.set_ | apply keep_drewN | apply keep_drew | apply keep_alloc | refine keep_far ?_ GW234.out _) | exact HK.out))) : w.heap.size ≤ gb247) : w0.heap.size ≤ gb247)); have n8_ := qM ((by rw [hg]; exact Nat.ne_of_lt (blk_lt (g := gb234) (o := .cells #[.int .i64 0, .int .i64 0, .int .i64 0, .int .i64 0, .int .i64 0, .int .i64 0, .int .i64 0] 46 (0, 0)) (by (with_reducible repeat (first | refine zN ?_ _ | refine zD ?_ | refine zA ?_ _)); exact BK234.out)) : gb234 ≠ gb247)); have n9_ := qM ((by rw [hg]; exact Nat.ne_of_gt (blk_lt (g := gb234) (o := .cells #[.int .i64 0, .int .i64 0, .int .i64 0, .int .i64 0, .int .i64 0, .int .i64 0, .int .i64 0] 46 (0, 0)) (by (with_reducible repeat (first | refine zN ?_ _ | refine zD ?_ | refine zA ?_ _)); exact BK234.out)) : gb247 ≠ gb234)); have n10_ := qM ((by rw [hg]; exact Nat.ne_of_lt (IsS67.lt (show IsS67 w0 _ g s0_0 t245 from by repeat (first | (with_reducible first | exact HI0.out | apply IsS67.alloc | apply IsS67.drewN | apply IsS67.drew | apply IsS67.set_1 | refine IsS67.far ?_ NB0_234.out _) | exact HI0.out))) : g ≠ gb247)); have n11_ := qM ((by rw [hg]; exact Nat.ne_of_gt (IsS67.lt (show IsS67 w0 _ g s0_0 t245 from by repeat (first | (with_reducible first | exact HI0.out | apply IsS67.alloc | apply IsS67.drewN | apply IsS67.drew | apply IsS67.set_1 | refine IsS67.far ?_ NB0_234.out _) | exact HI0.out))) : gb247 ≠ g)); clear HO243; clear HI0; clear BK234; clear HK; clear HB; have HO243 := n0_; have HI0 := n1_; have BK234 := n2_; have HK := n3_; have HB := n4_; have BK247 := n5_; have GW247 := n6_; have GE247 := n7_; have NB234_247 := n8_; have NB247_234 := n9_; have NB0_247 := n10_; have NB247_0 := n11_; clear n0_ n1_ n2_ n3_ n4_ n5_ n6_ n7_ n8_ n9_ n10_ n11_; clear hb hbox hg; have hnb55 := NB247_234.out; have hnc55 := NB234_247.out; have hnb56 := NB247_0.out; have hnc56 := NB0_247.out; have hcz57_0 : w54.cell? ⟨gb247, 0, none⟩ = some (.int .i64 0) := (zC BK247.out 0).trans rfl; have hcz57_1 : w54.cell? ⟨gb247, 1, none⟩ = some (.int .i64 0) := (zC BK247.out 1).trans rfl; have hcz57_2 : w54.cell? ⟨gb247, 2, none⟩ = some (.int .i64 0) := (zC BK247.out 2).trans rfl; have hcz57_3 : w54.cell? ⟨gb247, 3, none⟩ = some (.int .i64 0) := (zC BK247.out 3).trans rfl; have hcz57_4 : w54.cell? ⟨gb247, 4, none⟩ = some (.int .i64 0) := (zC BK247.out 4).trans rfl; have hcz57_5 : w54.cell? ⟨gb247, 5, none⟩ = some (.int .i64 0) := (zC BK247.out 5).trans rfl; have hcz57_6 : w54.cell? ⟨gb247, 6, none⟩ = some (.int .i64 0) := (zC BK247.out 6).trans rfl; have hfz57_0 := zF BK247.out 0; have hfz57_1 := zF BK247.out 1; have hfz57_2 := zF BK247.out 2; have hfz57_3 := zF BK247.out 3; have hfz57_4 := zF BK247.out 4; have hfz57_5 := zF BK247.out 5; have hfz57_6 := zF BK247.out 6))
      have pi253 : (0 ≤ (t251 : Int)) = True := eq_true (of_decide_eq_true (by first | (with_reducible assumption) | assumption))
      have qi253 : (t251 < (y248.length : Int)) = True := eq_true (of_decide_eq_true (by first | (with_reducible assumption) | assumption))
      have n0_ : Aside0 (Kd.R (Kd.int .i64) 3 (((((((w54.setCell ⟨gb247, 0, none⟩ (.int .i64 t235)).setCell ⟨gb247, 1, none⟩ (.int .i64 8)).setCell ⟨gb247, 2, none⟩ (.int .i64 (wrap64 (t237 - 1)))).setCell ⟨gb247, 3, none⟩ (.int .i64 0)).setCell ⟨gb247, 4, none⟩ (.int .i64 255)).setCell ⟨gb247, 5, none⟩ (.int .i64 (wrap64 (t239 - 1)))).setCell ⟨gb247, 6, none⟩ (.int .i64 (rd y241 t244))) w.heap.size (fun _ => True) (.slice (some ad246) y241.length co53) y241) := ⟨by (with_reducible repeat (first | apply qA | apply qN | apply qD)); exact Kd.R_mono (qF (p := ⟨gb247, 6, none⟩) (qF (p := ⟨gb247, 5, none⟩) (qF (p := ⟨gb247, 4, none⟩) (qF (p := ⟨gb247, 3, none⟩) (qF (p := ⟨gb247, 2, none⟩) (qF (p := ⟨gb247, 1, none⟩) (qF (p := ⟨gb247, 0, none⟩) (Kd.R_types HO243.out BK247.out (by decide)) (fun _ hk => hk.2) (.int .i64 t235)) (fun _ hk => hk.2) (.int .i64 8)) (fun _ hk => hk.2) (.int .i64 (wrap64 (t237 - 1)))) (fun _ hk => hk.2) (.int .i64 0)) (fun _ hk => hk.2) (.int .i64 255)) (fun _ hk => hk.2) (.int .i64 (wrap64 (t239 - 1)))) (fun _ hk => hk.2) (.int .i64 (rd y241 t244))) (fun _ hk => trivial)⟩
      have n1_ : Aside0 ((((((((w54.setCell ⟨gb247, 0, none⟩ (.int .i64 t235)).setCell ⟨gb247, 1, none⟩ (.int .i64 8)).setCell ⟨gb247, 2, none⟩ (.int .i64 (wrap64 (t237 - 1)))).setCell ⟨gb247, 3, none⟩ (.int .i64 0)).setCell ⟨gb247, 4, none⟩ (.int .i64 255)).setCell ⟨gb247, 5, none⟩ (.int .i64 (wrap64 (t239 - 1)))).setCell ⟨gb247, 6, none⟩ (.int .i64 (rd y241 t244))).heap[gb234]? = some (.cells #[.int .i64 0, .int .i64 0, .int .i64 0, .int .i64 0, .int .i64 0, .int .i64 0, .int .i64 0] 46 (0, 0))) := ⟨by (with_reducible repeat (first | refine zN ?_ _ | refine zD ?_ | refine zA ?_ _)); refine blk_far ?_ NB234_247.out _; (with_reducible repeat (first | refine zN ?_ _ | refine zD ?_ | refine zA ?_ _)); refine blk_far ?_ NB234_247.out _; (with_reducible repeat (first | refine zN ?_ _ | refine zD ?_ | refine zA ?_ _)); refine blk_far ?_ NB234_247.out _; (with_reducible repeat (first | refine zN ?_ _ | refine zD ?_ | refine zA ?_ _)); refine blk_far ?_ NB234_247.out _; (with_reducible repeat (first | refine zN ?_ _ | refine zD ?_ | refine zA ?_ _)); refine blk_far ?_ NB234_247.out _; (with_reducible repeat (first | refine zN ?_ _ | refine zD ?_ | refine zA ?_ _)); refine blk_far ?_ NB234_247.out _; (with_reducible repeat (first | refine zN ?_ _ | refine zD ?_ | refine zA ?_ _)); refine blk_far ?_ NB234_247.out _; (with_reducible repeat (first | refine zN ?_ _ | refine zD ?_ | refine zA ?_ _)); exact BK234.out⟩
      have n2_ : Aside0 ((((((((w54.setCell ⟨gb247, 0, none⟩ (.int .i64 t235)).setCell ⟨gb247, 1, none⟩ (.int .i64 8)).setCell ⟨gb247, 2, none⟩ (.int .i64 (wrap64 (t237 - 1)))).setCell ⟨gb247, 3, none⟩ (.int .i64 0)).setCell ⟨gb247, 4, none⟩ (.int .i64 255)).setCell ⟨gb247, 5, none⟩ (.int .i64 (wrap64 (t239 - 1)))).setCell ⟨gb247, 6, none⟩ (.int .i64 (rd y241 t244))).heap[gb247]? = some (.cells #[.int .i64 t235, .int .i64 8, .int .i64 (wrap64 (t237 - 1)), .int .i64 0, .int .i64 255, .int .i64 (wrap64 (t239 - 1)), .int .i64 (rd y241 t244)] 46 (0, 0))) := ⟨by (with_reducible repeat (first | refine zN ?_ _ | refine zD ?_ | refine zA ?_ _)); refine blk_put (cs := #[.int .i64 t235, .int .i64 8, .int .i64 (wrap64 (t237 - 1)), .int .i64 0, .int .i64 255, .int .i64 (wrap64 (t239 - 1)), .int .i64 0]) ?_ 6 _ rfl; (with_reducible repeat (first | refine zN ?_ _ | refine zD ?_ | refine zA ?_ _)); refine blk_put (cs := #[.int .i64 t235, .int .i64 8, .int .i64 (wrap64 (t237 - 1)), .int .i64 0, .int .i64 255, .int .i64 0, .int .i64 0]) ?_ 5 _ rfl; (with_reducible repeat (first | refine zN ?_ _ | refine zD ?_ | refine zA ?_ _)); refine blk_put (cs := #[.int .i64 t235, .int .i64 8, .int .i64 (wrap64 (t237 - 1)), .int .i64 0, .int .i64 0, .int .i64 0, .int .i64 0]) ?_ 4 _ rfl; (with_reducible repeat (first | refine zN ?_ _ | refine zD ?_ | refine zA ?_ _)); refine blk_put (cs := #[.int .i64 t235, .int .i64 8, .int .i64 (wrap64 (t237 - 1)), .int .i64 0, .int .i64 0, .int .i64 0, .int .i64 0]) ?_ 3 _ rfl; (with_reducible repeat (first | refine zN ?_ _ | refine zD ?_ | refine zA ?_ _)); refine blk_put (cs := #[.int .i64 t235, .int .i64 8, .int .i64 0, .int .i64 0, .int .i64 0, .int .i64 0, .int .i64 0]) ?_ 2 _ rfl; (with_reducible repeat (first | refine zN ?_ _ | refine zD ?_ | refine zA ?_ _)); refine blk_put (cs := #[.int .i64 t235, .int .i64 0, .int .i64 0, .int .i64 0, .int .i64 0, .int .i64 0, .int .i64 0]) ?_ 1 _ rfl; (with_reducible repeat (first | refine zN ?_ _ | refine zD ?_ | refine zA ?_ _)); refine blk_put (cs := #[.int .i64 0, .int .i64 0, .int .i64 0, .int .i64 0, .int .i64 0, .int .i64 0, .int .i64 0]) ?_ 0 _ rfl; (with_reducible repeat (first | refine zN ?_ _ | refine zD ?_ | refine zA ?_ _)); exact BK247.out⟩
      have n3_ : Aside0 (IsS67 w0 (((((((w54.setCell ⟨gb247, 0, none⟩ (.int .i64 t235)).setCell ⟨gb247, 1, none⟩ (.int .i64 8)).setCell ⟨gb247, 2, none⟩ (.int .i64 (wrap64 (t237 - 1)))).setCell ⟨gb247, 3, none⟩ (.int .i64 0)).setCell ⟨gb247, 4, none⟩ (.int .i64 255)).setCell ⟨gb247, 5, none⟩ (.int .i64 (wrap64 (t239 - 1)))).setCell ⟨gb247, 6, none⟩ (.int .i64 (rd y241 t244))) g s0_0 t245) := ⟨by repeat (first | (with_reducible first | exact HI0.out | apply IsS67.alloc | apply IsS67.drewN | apply IsS67.drew | apply IsS67.set_1 | refine IsS67.far ?_ NB0_234.out _ | refine IsS67.far ?_ NB0_247.out _) | exact HI0.out)⟩
      have n4_ : Aside0 (KeepBut w (((((((w54.setCell ⟨gb247, 0, none⟩ (.int .i64 t235)).setCell ⟨gb247, 1, none⟩ (.int .i64 8)).setCell ⟨gb247, 2, none⟩ (.int .i64 (wrap64 (t237 - 1)))).setCell ⟨gb247, 3, none⟩ (.int .i64 0)).setCell ⟨gb247, 4, none⟩ (.int .i64 255)).setCell ⟨gb247, 5, none⟩ (.int .i64 (wrap64 (t239 - 1)))).setCell ⟨gb247, 6, none⟩ (.int .i64 (rd y241 t244))) g none) := ⟨by repeat (first | (with_reducible first | exact HK.out | apply KeepBut.set_ | apply keep_drewN | apply keep_drew | apply keep_alloc | refine keep_far ?_ GW234.out _ | refine keep_far ?_ GW247.out _) | exact HK.out)⟩
      have n5_ : Aside0 (Below w0.heap.size w0 (((((((w54.setCell ⟨gb247, 0, none⟩ (.int .i64 t235)).setCell ⟨gb247, 1, none⟩ (.int .i64 8)).setCell ⟨gb247, 2, none⟩ (.int .i64 (wrap64 (t237 - 1)))).setCell ⟨gb247, 3, none⟩ (.int .i64 0)).setCell ⟨gb247, 4, none⟩ (.int .i64 255)).setCell ⟨gb247, 5, none⟩ (.int .i64 (wrap64 (t239 - 1)))).setCell ⟨gb247, 6, none⟩ (.int .i64 (rd y241 t244)))) := ⟨by repeat (first | (with_reducible first | exact HB.out | apply yA | apply yN | apply yD | refine yS ?_ (IsS67.ge HI0.out) | refine yS ?_ GE234.out | refine yS ?_ GE247.out) | exact HB.out)⟩
      (try clear HO243)
      (try clear BK234)
      (try clear BK247)
      (try clear HI0)
      (try clear HK)
      (try clear HB)
      generalize (((((((w54.setCell ⟨gb247, 0, none⟩ (.int .i64 t235)).setCell ⟨gb247, 1, none⟩ (.int .i64 8)).setCell ⟨gb247, 2, none⟩ (.int .i64 (wrap64 (t237 - 1)))).setCell ⟨gb247, 3, none⟩ (.int .i64 0)).setCell ⟨gb247, 4, none⟩ (.int .i64 255)).setCell ⟨gb247, 5, none⟩ (.int .i64 (wrap64 (t239 - 1)))).setCell ⟨gb247, 6, none⟩ (.int .i64 (rd y241 t244))) = w58 at n0_ n1_ n2_ n3_ n4_ n5_ ⊢
      have HO243 := n0_
      have BK234 := n1_
      have BK247 := n2_
      have HI0 := n3_
      have HK := n4_
      have HB := n5_
      clear n0_ n1_ n2_ n3_ n4_ n5_
      have n0_ := qM (qD HO243.out)
      have n1_ := qM (zD BK234.out)
      have n2_ := qM (zD BK247.out)
      have n3_ := qM (IsS67.drew HI0.out)
      have n4_ := qM (keep_drew HK.out)
      have n5_ := qM (yD HB.out)
      clear HO243
      clear BK234
      clear BK247
      clear HI0
      clear HK
      clear HB
      have HO243 := n0_
      have BK234 := n1_
      have BK247 := n2_
      have HI0 := n3_
      have HK := n4_
      have HB := n5_
      clear n0_ n1_ n2_ n3_ n4_ n5_
      refine start_ (n := 12) (S := fun w' => w'.cell? ⟨gb247, 0, none⟩ = some (.int .i64 t235) ∧ w'.cell? ⟨gb247, 1, none⟩ = some (.int .i64 8) ∧ w'.cell? ⟨gb247, 2, none⟩ = some (.int .i64 (wrap64 (t237 - 1))) ∧ w'.cell? ⟨gb247, 3, none⟩ = some (.int .i64 0) ∧ w'.cell? ⟨gb247, 4, none⟩ = some (.int .i64 255) ∧ w'.cell? ⟨gb247, 5, none⟩ = some (.int .i64 (wrap64 (t239 - 1))) ∧ w'.cell? ⟨gb247, 6, none⟩ = some (.int .i64 (rd y241 t244))) (ds := [11]) #[false, false, false, false, false, false, false, false, false, false, false, false] (by kernel_rfl) rfl rfl ⟨(zC BK247.out 0).trans rfl, (zC BK247.out 1).trans rfl, (zC BK247.out 2).trans rfl, (zC BK247.out 3).trans rfl, (zC BK247.out 4).trans rfl, (zC BK247.out 5).trans rfl, (zC BK247.out 6).trans rfl⟩ (fun hHeld => ?_); refine with_tabW spec_l31Rule.tab2 spec_l31Rule.bits2 (fun HT_ HW_ => ?_)
      generalize w58.drew = w59 at HO243 BK234 BK247 HI0 HK HB hHeld ⊢
      refine pure_ (i := 0) (N := some 18) (v := ?_) (a' := ?_) #[true, false, false, false, false, false, false, false, false, false, false, false] rfl rfl (any_of HT_.out (by kernel_rfl)) (fun _ _ _ h => h) (Or.inl ⟨by rfl, ?_⟩) ?_ ?_
      rotate_left
      ·intro w'
       go_simp
       with_reducible rfl
      rotate_left
      ·simp only [Act.put, List.setIfInBounds_toArray, List.set_cons_zero, List.set_cons_succ, i64_w, i32_w]
       rfl
      refine pure_ (i := 2) (N := some 20) (v := ?_) (a' := ?_) #[true, false, true, false, false, false, false, false, false, false, false, false] rfl rfl (any_of HT_.out (by kernel_rfl)) (fun _ _ _ h => h) (Or.inl ⟨by rfl, ?_⟩) ?_ ?_
      rotate_left
      ·intro w'
       go_simp
       with_reducible rfl
      rotate_left
      ·simp only [Act.put, List.setIfInBounds_toArray, List.set_cons_zero, List.set_cons_succ, i64_w, i32_w]
       rfl
      refine pure_ (i := 6) (N := some 24) (v := ?_) (a' := ?_) #[true, false, true, false, false, false, true, false, false, false, false, false] rfl rfl (any_of HT_.out (by kernel_rfl)) (fun _ _ _ h => h) (Or.inl ⟨by rfl, ?_⟩) ?_ ?_
      rotate_left
      ·intro w'
       go_simp
       with_reducible rfl
      rotate_left
      ·simp only [Act.put, List.setIfInBounds_toArray, List.set_cons_zero, List.set_cons_succ, i64_w, i32_w]
       rfl
      refine take_ (i := 1) (N := some 19) (v := ?_) (a' := ?_) #[true, true, true, false, false, false, true, false, false, false, false, false] rfl rfl (take_ofW HT_.out HW_.out (by kernel_rfl)) (fun _ _ _ h => h) (Or.inl ⟨by rfl, ?_⟩) hHeld ?_ ?_
      rotate_left
      ·rintro w' ⟨s0, s1, s2, s3, s4, s5, s6⟩
       go_simp
       with_reducible rfl
      rotate_left
      ·simp only [Act.put, List.setIfInBounds_toArray, List.set_cons_zero, List.set_cons_succ, i64_w, i32_w]
       rfl
      refine take_ (i := 3) (N := some 21) (v := ?_) (a' := ?_) #[true, true, true, true, false, false, true, false, false, false, false, false] rfl rfl (take_ofW HT_.out HW_.out (by kernel_rfl)) (fun _ _ _ h => h) (Or.inl ⟨by rfl, ?_⟩) hHeld ?_ ?_
      rotate_left
      ·rintro w' ⟨s0, s1, s2, s3, s4, s5, s6⟩
       go_simp
       with_reducible rfl
      rotate_left
      ·simp only [Act.put, List.setIfInBounds_toArray, List.set_cons_zero, List.set_cons_succ, i64_w, i32_w]
       rfl
      refine pure_ (i := 4) (N := some 22) (v := ?_) (a' := ?_) #[true, true, true, true, true, false, true, false, false, false, false, false] rfl rfl (any_of HT_.out (by kernel_rfl)) (fun _ _ _ h => h) (Or.inl ⟨by rfl, ?_⟩) ?_ ?_
      rotate_left
      ·intro w'
       go_simp
       with_reducible rfl
      rotate_left
      ·simp only [Act.put, List.setIfInBounds_toArray, List.set_cons_zero, List.set_cons_succ, i64_w, i32_w]
       rfl
      refine join_ (σ := Value × Addr) 4 #[true, true, true, true, true, true, true, true, false, false, false, false] (fun s_ => [(23, s_.1), (25, .int .i64 t251)]) (fun s_ w' => (w'.cell? ⟨gb247, 0, none⟩ = some (.int .i64 t235) ∧ w'.cell? ⟨gb247, 1, none⟩ = some (.int .i64 8) ∧ w'.cell? ⟨gb247, 2, none⟩ = some (.int .i64 (wrap64 (t237 - 1))) ∧ w'.cell? ⟨gb247, 3, none⟩ = some (.int .i64 0) ∧ w'.cell? ⟨gb247, 4, none⟩ = some (.int .i64 255) ∧ w'.cell? ⟨gb247, 5, none⟩ = some (.int .i64 (wrap64 (t239 - 1))) ∧ w'.cell? ⟨gb247, 6, none⟩ = some (.int .i64 (rd y241 t244))) ∧ (Kd.R (Kd.int .i64) 3 w' w.heap.size (fun k_ => some k_ ≠ (s_.1 : Value).ownBlock) (.slice (some ad246) y241.length co53) y241) ∧ (Kd.R (Kd.int .i64) 3 w' w.heap.size (fun k_ => some k_ ≠ (.slice (some ad246) y241.length co53 : Value).ownBlock) s_.1 y248) ∧ (∃ c_, (s_.1 : Value) = .slice (some s_.2) y248.length c_) ∧ (w'.heap[gb234]? = some (.cells #[.int .i64 0, .int .i64 0, .int .i64 0, .int .i64 0, .int .i64 0, .int .i64 0, .int .i64 0] 46 (0, 0))) ∧ (w'.heap[gb247]? = some (.cells #[.int .i64 t235, .int .i64 8, .int .i64 (wrap64 (t237 - 1)), .int .i64 0, .int .i64 255, .int .i64 (wrap64 (t239 - 1)), .int .i64 (rd y241 t244)] 46 (0, 0))) ∧ (IsS67 w0 w' g s0_0 t252) ∧ (KeepBut w w' g none) ∧ (Below w0.heap.size w0 w')) ?_ ?_
      rotate_left
      ·intro hCont
       refine two_ (i := 5) (j := 7) (Ni := some 23) (Nj := some 25) #[true, true, true, true, true, true, true, false, false, false, false, false] #[true, true, true, true, true, false, true, true, false, false, false, false] rfl rfl rfl rfl (two_of HT_.out (by kernel_rfl)) (by decide) (by decide) (fun K hK => ?_) (fun K hK => ?_)
       ·skip
        refine Kd.R_lit_step (Kd.int .i64) _ 3 ?hg (N := 23) ?hd (xs := ([8, 8, t235, wrap64 (t235 + 2)] : List Int)) (inner := [.int .i64 8, .int .i64 8, .int .i64 t235, .int .i64 (wrap64 (t235 + 2))]) (ok := fun _ => True) (okp := fun _ => True) ?hr ?hp (fun _ hk => hk) trivial (Below.refl _ _) (Nat.le_refl _) (by simp) ?_; (case hd => rfl); (case hg => rfl); (case hr => first | (go_simp; done) | (go_simp; rfl)); (case hp => exact (Reps.one (show Kd.M (Kd.int .i64) _ _ _ 8 [.int .i64 8] from rfl) (Reps.one (show Kd.M (Kd.int .i64) _ _ _ 8 [.int .i64 8] from rfl) (Reps.one (show Kd.M (Kd.int .i64) _ _ _ t235 [.int .i64 t235] from rfl) (Reps.one (show Kd.M (Kd.int .i64) _ _ _ (wrap64 (t235 + 2)) [.int .i64 (wrap64 (t235 + 2))] from rfl) (Reps.none _ _))))))
        intro v249 w60 ho61 hb hg_ hnew_
        clear hg_ hnew_
        (first | rw [← Ny248.out] at ho61 | (simp only [Int.reduceToNat] at ho61; rw [← Ny248.out] at ho61))
        have n0_ := qM (Kd.R_elder' (by (with_reducible repeat (first | apply qA | apply qN | apply qD)); exact HO243.out) (Kd.R_base ho61) hb)
        have n1_ := qM (Kd.R_lower (Kd.R_new' ho61 (Kd.R_lt (by (with_reducible repeat (first | apply qA | apply qN | apply qD)); exact HO243.out))) (keep_size (w := w) (g := g) (row := none) (by repeat (first | (with_reducible first | exact HK.out | apply KeepBut.set_ | apply keep_drewN | apply keep_drew | apply keep_alloc | refine keep_far ?_ GW234.out _ | refine keep_far ?_ GW247.out _) | exact HK.out))))
        have n2_ := qM (IsS67.below (by repeat (first | (with_reducible first | exact HI0.out | apply IsS67.alloc | apply IsS67.drewN | apply IsS67.drew | apply IsS67.set_1 | refine IsS67.far ?_ NB0_234.out _ | refine IsS67.far ?_ NB0_247.out _) | exact HI0.out)) hb)
        have n3_ := qM (blk_below (g := gb234) (o := .cells #[.int .i64 0, .int .i64 0, .int .i64 0, .int .i64 0, .int .i64 0, .int .i64 0, .int .i64 0] 46 (0, 0)) (by (with_reducible repeat (first | refine zN ?_ _ | refine zD ?_ | refine zA ?_ _)); exact BK234.out) hb)
        have n4_ := qM (blk_below (g := gb247) (o := .cells #[.int .i64 t235, .int .i64 8, .int .i64 (wrap64 (t237 - 1)), .int .i64 0, .int .i64 255, .int .i64 (wrap64 (t239 - 1)), .int .i64 (rd y241 t244)] 46 (0, 0)) (by (with_reducible repeat (first | refine zN ?_ _ | refine zD ?_ | refine zA ?_ _)); exact BK247.out) hb)
        have n5_ := qM (KeepBut.trans (by repeat (first | (with_reducible first | exact HK.out | apply KeepBut.set_ | apply keep_drewN | apply keep_drew | apply keep_alloc | refine keep_far ?_ GW234.out _ | refine keep_far ?_ GW247.out _) | exact HK.out)) (KeepBut.of_below hb g none) (.inl rfl))
        have n6_ := qM (below_step (by repeat (first | (with_reducible first | exact HB.out | apply yA | apply yN | apply yD | refine yS ?_ (IsS67.ge HI0.out) | refine yS ?_ GE234.out | refine yS ?_ GE247.out) | exact HB.out)) hb)
        clear HO243
        clear HI0
        clear BK234
        clear BK247
        clear HK
        clear HB
        have HO243 := n0_
        have HO250 := n1_
        have HI0 := n2_
        have BK234 := n3_
        have BK247 := n4_
        have HK := n5_
        have HB := n6_
        clear n0_ n1_ n2_ n3_ n4_ n5_ n6_
        clear hb ho61
        obtain ⟨Ao62, co62, eo62⟩ := Kd.R_slice HO250.out
        subst eo62
        obtain ⟨ado62, fo62, _⟩ := Kd.at_int (qR HO250.out).2.2 0 (by decide) (by rw [Ny248.out]; simp)
        cases fo62
        refine hK.out _ _ ⟨(zC BK247.out 0).trans rfl, (zC BK247.out 1).trans rfl, (zC BK247.out 2).trans rfl, (zC BK247.out 3).trans rfl, (zC BK247.out 4).trans rfl, (zC BK247.out 5).trans rfl, (zC BK247.out 6).trans rfl⟩ (fun hHeld => ?_)
        clear hK K
        refine norm_ (a' := ?_) ?_ ?_
        rotate_left
        ·show Act.put _ (some 23) _ = _
         simp only [Act.put, List.setIfInBounds_toArray, List.set_cons_zero, List.set_cons_succ, i64_w, i32_w]
         rfl
        refine one_ (i := 7) (N := some 25) #[true, true, true, true, true, true, true, true, false, false, false, false] rfl rfl (one_of HT_.out (by kernel_rfl)) (by decide) (fun K hK => ?_)
        refine goes_ Try.func39 (by kernel_rfl) rfl #[.pointer (some ⟨g, 0, none⟩), .int .i64 4] (by rfl) rfl rfl (by (try simp only [List.map_toArray, List.map_cons, List.map_nil]); first | done | rfl | (simp only [List.length_drop, List.length_take]; rfl)) ?_
        with_reducible refine (spec_l30Rd_pick.calls k g s0_0 t245 4 t251 t252 w0 _ ?side1 ?side2 A8.out).mono ?_
        (case side1 => repeat (first | (with_reducible first | exact HI0.out | apply IsS67.alloc | apply IsS67.drewN | apply IsS67.drew | apply IsS67.set_1 | refine IsS67.far ?_ NB0_234.out _ | refine IsS67.far ?_ NB0_247.out _) | exact HI0.out))
        (case side2 => repeat (first | (with_reducible first | exact HB.out | apply yA | apply yN | apply yD | refine yS ?_ (IsS67.ge HI0.out) | refine yS ?_ GE234.out | refine yS ?_ GE247.out) | exact HB.out))
        rintro e w63 ⟨rfl, hi, hb, hk⟩
        refine ⟨_, rfl, ?_⟩
        have n0_ := qM (KeepBut.blk hk (g' := gb234) (o := .cells #[.int .i64 0, .int .i64 0, .int .i64 0, .int .i64 0, .int .i64 0, .int .i64 0, .int .i64 0] 46 (0, 0)) (by (with_reducible repeat (first | refine zN ?_ _ | refine zD ?_ | refine zA ?_ _)); exact BK234.out) NB234_0.out (by simp))
        have n1_ := qM (Kd.R_mono (Kd.R_keep (IsS67.apart (show IsS67 w0 _ g s0_0 t245 from by repeat (first | (with_reducible first | exact HI0.out | apply IsS67.alloc | apply IsS67.drewN | apply IsS67.drew | apply IsS67.set_1 | refine IsS67.far ?_ NB0_234.out _ | refine IsS67.far ?_ NB0_247.out _) | exact HI0.out)) (by (with_reducible repeat (first | apply qA | apply qN | apply qD)); exact HO243.out) (by decide)) hk (fun _ h => h.2)) (fun _ h => h.1))
        have n2_ := qM (KeepBut.blk hk (g' := gb247) (o := .cells #[.int .i64 t235, .int .i64 8, .int .i64 (wrap64 (t237 - 1)), .int .i64 0, .int .i64 255, .int .i64 (wrap64 (t239 - 1)), .int .i64 (rd y241 t244)] 46 (0, 0)) (by (with_reducible repeat (first | refine zN ?_ _ | refine zD ?_ | refine zA ?_ _)); exact BK247.out) NB247_0.out (by simp))
        have n3_ := qM (Kd.R_mono (Kd.R_keep (IsS67.apart (show IsS67 w0 _ g s0_0 t245 from by repeat (first | (with_reducible first | exact HI0.out | apply IsS67.alloc | apply IsS67.drewN | apply IsS67.drew | apply IsS67.set_1 | refine IsS67.far ?_ NB0_234.out _ | refine IsS67.far ?_ NB0_247.out _) | exact HI0.out)) (by (with_reducible repeat (first | apply qA | apply qN | apply qD)); exact HO250.out) (by decide)) hk (fun _ h => h.2)) (fun _ h => h.1))
        have n4_ := qM (KeepBut.trans (by repeat (first | (with_reducible first | exact HK.out | apply KeepBut.set_ | apply keep_drewN | apply keep_drew | apply keep_alloc | refine keep_far ?_ GW234.out _ | refine keep_far ?_ GW247.out _) | exact HK.out)) hk (.inl rfl))
        have n5_ := qM (hb)
        have n6_ := qM (hi)
        clear BK234
        clear HO243
        clear BK247
        clear HO250
        clear HK
        clear HB
        clear HI0
        have BK234 := n0_
        have HO243 := n1_
        have BK247 := n2_
        have HO250 := n3_
        have HK := n4_
        have HB := n5_
        have HI0 := n6_
        clear n0_ n1_ n2_ n3_ n4_ n5_ n6_
        (try clear hb)
        (try clear hb2)
        (try clear hk)
        (try clear hi)
        refine hK.out _ _ ⟨(zC BK247.out 0).trans rfl, (zC BK247.out 1).trans rfl, (zC BK247.out 2).trans rfl, (zC BK247.out 3).trans rfl, (zC BK247.out 4).trans rfl, (zC BK247.out 5).trans rfl, (zC BK247.out 6).trans rfl⟩ (fun hHeld => ?_)
        clear hK K
        refine norm_ (a' := ?_) ?_ ?_
        rotate_left
        ·show Act.put _ (some 25) _ = _
         simp only [Act.put, List.setIfInBounds_toArray, List.set_cons_zero, List.set_cons_succ, i64_w, i32_w]
         rfl
        exact norm_ (by simp only [putAll, Act.put, List.setIfInBounds_toArray, List.set_cons_zero, List.set_cons_succ]) (hCont (.slice (some ado62) y248.length co62, ado62) _ ⟨hHeld, (by (with_reducible repeat (first | apply qA | apply qN | apply qD)); exact Kd.R_mono HO243.out (fun _ hk => hk.2)), (by (with_reducible repeat (first | apply qA | apply qN | apply qD)); exact Kd.R_mono HO250.out (fun _ hk => hk.2)), ⟨_, rfl⟩, (by (with_reducible repeat (first | refine zN ?_ _ | refine zD ?_ | refine zA ?_ _)); exact BK234.out), (by (with_reducible repeat (first | refine zN ?_ _ | refine zD ?_ | refine zA ?_ _)); exact BK247.out), (by repeat (first | (with_reducible first | exact HI0.out | apply IsS67.alloc | apply IsS67.drewN | apply IsS67.drew | apply IsS67.set_1 | refine IsS67.far ?_ NB0_234.out _ | refine IsS67.far ?_ NB0_247.out _) | exact HI0.out)), (by repeat (first | (with_reducible first | exact HK.out | apply KeepBut.set_ | apply keep_drewN | apply keep_drew | apply keep_alloc | refine keep_far ?_ GW234.out _ | refine keep_far ?_ GW247.out _) | exact HK.out)), (by repeat (first | (with_reducible first | exact HB.out | apply yA | apply yN | apply yD | refine yS ?_ (IsS67.ge HI0.out) | refine yS ?_ GE234.out | refine yS ?_ GE247.out) | exact HB.out))⟩)
       ·skip
        refine goes_ Try.func39 (by kernel_rfl) rfl #[.pointer (some ⟨g, 0, none⟩), .int .i64 4] (by rfl) rfl rfl (by (try simp only [List.map_toArray, List.map_cons, List.map_nil]); first | done | rfl | (simp only [List.length_drop, List.length_take]; rfl)) ?_
        with_reducible refine (spec_l30Rd_pick.calls k g s0_0 t245 4 t251 t252 w0 _ ?side1 ?side2 A8.out).mono ?_
        (case side1 => repeat (first | (with_reducible first | exact HI0.out | apply IsS67.alloc | apply IsS67.drewN | apply IsS67.drew | apply IsS67.set_1 | refine IsS67.far ?_ NB0_234.out _ | refine IsS67.far ?_ NB0_247.out _) | exact HI0.out))
        (case side2 => repeat (first | (with_reducible first | exact HB.out | apply yA | apply yN | apply yD | refine yS ?_ (IsS67.ge HI0.out) | refine yS ?_ GE234.out | refine yS ?_ GE247.out) | exact HB.out))
        rintro e w60 ⟨rfl, hi, hb, hk⟩
        refine ⟨_, rfl, ?_⟩
        have n0_ := qM (KeepBut.blk hk (g' := gb234) (o := .cells #[.int .i64 0, .int .i64 0, .int .i64 0, .int .i64 0, .int .i64 0, .int .i64 0, .int .i64 0] 46 (0, 0)) (by (with_reducible repeat (first | refine zN ?_ _ | refine zD ?_ | refine zA ?_ _)); exact BK234.out) NB234_0.out (by simp))
        have n1_ := qM (Kd.R_mono (Kd.R_keep (IsS67.apart (show IsS67 w0 _ g s0_0 t245 from by repeat (first | (with_reducible first | exact HI0.out | apply IsS67.alloc | apply IsS67.drewN | apply IsS67.drew | apply IsS67.set_1 | refine IsS67.far ?_ NB0_234.out _ | refine IsS67.far ?_ NB0_247.out _) | exact HI0.out)) (by (with_reducible repeat (first | apply qA | apply qN | apply qD)); exact HO243.out) (by decide)) hk (fun _ h => h.2)) (fun _ h => h.1))
        have n2_ := qM (KeepBut.blk hk (g' := gb247) (o := .cells #[.int .i64 t235, .int .i64 8, .int .i64 (wrap64 (t237 - 1)), .int .i64 0, .int .i64 255, .int .i64 (wrap64 (t239 - 1)), .int .i64 (rd y241 t244)] 46 (0, 0)) (by (with_reducible repeat (first | refine zN ?_ _ | refine zD ?_ | refine zA ?_ _)); exact BK247.out) NB247_0.out (by simp))
        have n3_ := qM (KeepBut.trans (by repeat (first | (with_reducible first | exact HK.out | apply KeepBut.set_ | apply keep_drewN | apply keep_drew | apply keep_alloc | refine keep_far ?_ GW234.out _ | refine keep_far ?_ GW247.out _) | exact HK.out)) hk (.inl rfl))
        have n4_ := qM (hb)
        have n5_ := qM (hi)
        clear BK234
        clear HO243
        clear BK247
        clear HK
        clear HB
        clear HI0
        have BK234 := n0_
        have HO243 := n1_
        have BK247 := n2_
        have HK := n3_
        have HB := n4_
        have HI0 := n5_
        clear n0_ n1_ n2_ n3_ n4_ n5_
        (try clear hb)
        (try clear hb2)
        (try clear hk)
        (try clear hi)
        refine hK.out _ _ ⟨(zC BK247.out 0).trans rfl, (zC BK247.out 1).trans rfl, (zC BK247.out 2).trans rfl, (zC BK247.out 3).trans rfl, (zC BK247.out 4).trans rfl, (zC BK247.out 5).trans rfl, (zC BK247.out 6).trans rfl⟩ (fun hHeld => ?_)
        clear hK K
        refine norm_ (a' := ?_) ?_ ?_
        rotate_left
        ·show Act.put _ (some 25) _ = _
         simp only [Act.put, List.setIfInBounds_toArray, List.set_cons_zero, List.set_cons_succ, i64_w, i32_w]
         rfl
        refine one_ (i := 5) (N := some 23) #[true, true, true, true, true, true, true, true, false, false, false, false] rfl rfl (one_of HT_.out (by kernel_rfl)) (by decide) (fun K hK => ?_)
        refine Kd.R_lit_step (Kd.int .i64) _ 3 ?hg (N := 23) ?hd (xs := ([8, 8, t235, wrap64 (t235 + 2)] : List Int)) (inner := [.int .i64 8, .int .i64 8, .int .i64 t235, .int .i64 (wrap64 (t235 + 2))]) (ok := fun _ => True) (okp := fun _ => True) ?hr ?hp (fun _ hk => hk) trivial (Below.refl _ _) (Nat.le_refl _) (by simp) ?_; (case hd => rfl); (case hg => rfl); (case hr => first | (go_simp; done) | (go_simp; rfl)); (case hp => exact (Reps.one (show Kd.M (Kd.int .i64) _ _ _ 8 [.int .i64 8] from rfl) (Reps.one (show Kd.M (Kd.int .i64) _ _ _ 8 [.int .i64 8] from rfl) (Reps.one (show Kd.M (Kd.int .i64) _ _ _ t235 [.int .i64 t235] from rfl) (Reps.one (show Kd.M (Kd.int .i64) _ _ _ (wrap64 (t235 + 2)) [.int .i64 (wrap64 (t235 + 2))] from rfl) (Reps.none _ _))))))
        intro v249 w61 ho62 hb hg_ hnew_
        clear hg_ hnew_
        (first | rw [← Ny248.out] at ho62 | (simp only [Int.reduceToNat] at ho62; rw [← Ny248.out] at ho62))
        have n0_ := qM (Kd.R_elder' (by (with_reducible repeat (first | apply qA | apply qN | apply qD)); exact HO243.out) (Kd.R_base ho62) hb)
        have n1_ := qM (Kd.R_lower (Kd.R_new' ho62 (Kd.R_lt (by (with_reducible repeat (first | apply qA | apply qN | apply qD)); exact HO243.out))) (keep_size (w := w) (g := g) (row := none) (by repeat (first | (with_reducible first | exact HK.out | apply KeepBut.set_ | apply keep_drewN | apply keep_drew | apply keep_alloc | refine keep_far ?_ GW234.out _ | refine keep_far ?_ GW247.out _) | exact HK.out))))
        have n2_ := qM (IsS67.below (by repeat (first | (with_reducible first | exact HI0.out | apply IsS67.alloc | apply IsS67.drewN | apply IsS67.drew | apply IsS67.set_1 | refine IsS67.far ?_ NB0_234.out _ | refine IsS67.far ?_ NB0_247.out _) | exact HI0.out)) hb)
        have n3_ := qM (blk_below (g := gb234) (o := .cells #[.int .i64 0, .int .i64 0, .int .i64 0, .int .i64 0, .int .i64 0, .int .i64 0, .int .i64 0] 46 (0, 0)) (by (with_reducible repeat (first | refine zN ?_ _ | refine zD ?_ | refine zA ?_ _)); exact BK234.out) hb)
        have n4_ := qM (blk_below (g := gb247) (o := .cells #[.int .i64 t235, .int .i64 8, .int .i64 (wrap64 (t237 - 1)), .int .i64 0, .int .i64 255, .int .i64 (wrap64 (t239 - 1)), .int .i64 (rd y241 t244)] 46 (0, 0)) (by (with_reducible repeat (first | refine zN ?_ _ | refine zD ?_ | refine zA ?_ _)); exact BK247.out) hb)
        have n5_ := qM (KeepBut.trans (by repeat (first | (with_reducible first | exact HK.out | apply KeepBut.set_ | apply keep_drewN | apply keep_drew | apply keep_alloc | refine keep_far ?_ GW234.out _ | refine keep_far ?_ GW247.out _) | exact HK.out)) (KeepBut.of_below hb g none) (.inl rfl))
        have n6_ := qM (below_step (by repeat (first | (with_reducible first | exact HB.out | apply yA | apply yN | apply yD | refine yS ?_ (IsS67.ge HI0.out) | refine yS ?_ GE234.out | refine yS ?_ GE247.out) | exact HB.out)) hb)
        clear HO243
        clear HI0
        clear BK234
        clear BK247
        clear HK
        clear HB
        have HO243 := n0_
        have HO250 := n1_
        have HI0 := n2_
        have BK234 := n3_
        have BK247 := n4_
        have HK := n5_
        have HB := n6_
        clear n0_ n1_ n2_ n3_ n4_ n5_ n6_
        clear hb ho62
        obtain ⟨Ao63, co63, eo63⟩ := Kd.R_slice HO250.out
        subst eo63
        obtain ⟨ado63, fo63, _⟩ := Kd.at_int (qR HO250.out).2.2 0 (by decide) (by rw [Ny248.out]; simp)
        cases fo63
        refine hK.out _ _ ⟨(zC BK247.out 0).trans rfl, (zC BK247.out 1).trans rfl, (zC BK247.out 2).trans rfl, (zC BK247.out 3).trans rfl, (zC BK247.out 4).trans rfl, (zC BK247.out 5).trans rfl, (zC BK247.out 6).trans rfl⟩ (fun hHeld => ?_)
        clear hK K
        refine norm_ (a' := ?_) ?_ ?_
        rotate_left
        ·show Act.put _ (some 23) _ = _
         simp only [Act.put, List.setIfInBounds_toArray, List.set_cons_zero, List.set_cons_succ, i64_w, i32_w]
         rfl
        exact norm_ (by simp only [putAll, Act.put, List.setIfInBounds_toArray, List.set_cons_zero, List.set_cons_succ]) (hCont (.slice (some ado63) y248.length co63, ado63) _ ⟨hHeld, (by (with_reducible repeat (first | apply qA | apply qN | apply qD)); exact Kd.R_mono HO243.out (fun _ hk => hk.2)), (by (with_reducible repeat (first | apply qA | apply qN | apply qD)); exact Kd.R_mono HO250.out (fun _ hk => hk.2)), ⟨_, rfl⟩, (by (with_reducible repeat (first | refine zN ?_ _ | refine zD ?_ | refine zA ?_ _)); exact BK234.out), (by (with_reducible repeat (first | refine zN ?_ _ | refine zD ?_ | refine zA ?_ _)); exact BK247.out), (by repeat (first | (with_reducible first | exact HI0.out | apply IsS67.alloc | apply IsS67.drewN | apply IsS67.drew | apply IsS67.set_1 | refine IsS67.far ?_ NB0_234.out _ | refine IsS67.far ?_ NB0_247.out _) | exact HI0.out)), (by repeat (first | (with_reducible first | exact HK.out | apply KeepBut.set_ | apply keep_drewN | apply keep_drew | apply keep_alloc | refine keep_far ?_ GW234.out _ | refine keep_far ?_ GW247.out _) | exact HK.out)), (by repeat (first | (with_reducible first | exact HB.out | apply yA | apply yN | apply yD | refine yS ?_ (IsS67.ge HI0.out) | refine yS ?_ GE234.out | refine yS ?_ GE247.out) | exact HB.out))⟩)
      rintro ⟨v249, adz_v249⟩ w64 ⟨hS_, h0_, h1_, h2_, h3_, h4_, h5_, h6_, h7_⟩
      have n0_ : Aside0 (Kd.R (Kd.int .i64) 3 w64 w.heap.size (fun k_ => some k_ ≠ (v249 : Value).ownBlock) (.slice (some ad246) y241.length co53) y241) := ⟨h0_⟩
      have n1_ : Aside0 (Kd.R (Kd.int .i64) 3 w64 w.heap.size (fun k_ => some k_ ≠ (.slice (some ad246) y241.length co53 : Value).ownBlock) v249 y248) := ⟨h1_⟩
      have n2_ : Aside0 (∃ c_, (v249 : Value) = .slice (some adz_v249) y248.length c_) := ⟨h2_⟩
      have n3_ : Aside0 (w64.heap[gb234]? = some (.cells #[.int .i64 0, .int .i64 0, .int .i64 0, .int .i64 0, .int .i64 0, .int .i64 0, .int .i64 0] 46 (0, 0))) := ⟨h3_⟩
      have n4_ : Aside0 (w64.heap[gb247]? = some (.cells #[.int .i64 t235, .int .i64 8, .int .i64 (wrap64 (t237 - 1)), .int .i64 0, .int .i64 255, .int .i64 (wrap64 (t239 - 1)), .int .i64 (rd y241 t244)] 46 (0, 0))) := ⟨h4_⟩
      have n5_ : Aside0 (IsS67 w0 w64 g s0_0 t252) := ⟨h5_⟩
      have n6_ : Aside0 (KeepBut w w64 g none) := ⟨h6_⟩
      have n7_ : Aside0 (Below w0.heap.size w0 w64) := ⟨h7_⟩
      clear HO243
      clear BK234
      clear BK247
      clear HI0
      clear HK
      clear HB
      clear h0_ h1_ h2_ h3_ h4_ h5_ h6_ h7_
      have HO243 := n0_
      have HO250 := n1_
      have HA_HO250 := n2_
      have BK234 := n3_
      have BK247 := n4_
      have HI0 := n5_
      have HK := n6_
      have HB := n7_
      clear n0_ n1_ n2_ n3_ n4_ n5_ n6_ n7_
      have hHeld : w64.cell? ⟨gb247, 0, none⟩ = some (.int .i64 t235) ∧ w64.cell? ⟨gb247, 1, none⟩ = some (.int .i64 8) ∧ w64.cell? ⟨gb247, 2, none⟩ = some (.int .i64 (wrap64 (t237 - 1))) ∧ w64.cell? ⟨gb247, 3, none⟩ = some (.int .i64 0) ∧ w64.cell? ⟨gb247, 4, none⟩ = some (.int .i64 255) ∧ w64.cell? ⟨gb247, 5, none⟩ = some (.int .i64 (wrap64 (t239 - 1))) ∧ w64.cell? ⟨gb247, 6, none⟩ = some (.int .i64 (rd y241 t244)) := hS_
      obtain ⟨co65, eo65⟩ := HA_HO250.out
      clear HA_HO250
      subst eo65
      refine norm_ (a' := ?_) ?_ ?_
      rotate_left
      ·simp only [putAll, Act.put, List.setIfInBounds_toArray, List.set_cons_zero, List.set_cons_succ]
       rfl
      refine pure_ (i := 8) (N := some 26) (v := ?_) (a' := ?_) #[true, true, true, true, true, true, true, true, true, false, false, false] rfl rfl (any_of HT_.out (by kernel_rfl)) (fun _ _ _ h => h) (Or.inl ⟨by rfl, ?_⟩) ?_ ?_
      rotate_left
      ·intro w'
       go_simp
       with_reducible rfl
      rotate_left
      ·simp only [Act.put, List.setIfInBounds_toArray, List.set_cons_zero, List.set_cons_succ, i64_w, i32_w]
       rfl
      refine one_ (i := 9) (N := some 27) #[true, true, true, true, true, true, true, true, true, true, false, false] rfl rfl (one_of HT_.out (by kernel_rfl)) (by decide) (fun K hK => ?_)
      (have p253 : 0 ≤ (t251 : Int) := of_decide_eq_true (by first | (with_reducible assumption) | assumption); have q253 : t251 < (y248.length : Int) := of_decide_eq_true (by first | (with_reducible assumption) | assumption); obtain ⟨ad253, e253, hx253_0⟩ := Kd.at_int (qR HO250.out).2.2 t251 p253 q253; obtain rfl : adz_v249 = ad253 := (by injection e253))
      refine value_ (w1 := ?_) (v := ?_) (by rfl) rfl ?_ ?_
      rotate_left 2
      ·go_simp
       constructor
       ·rfl
       ·rfl
      clear hx253_0
      refine hK.out _ _ ⟨(zC BK247.out 0).trans rfl, (zC BK247.out 1).trans rfl, (zC BK247.out 2).trans rfl, (zC BK247.out 3).trans rfl, (zC BK247.out 4).trans rfl, (zC BK247.out 5).trans rfl, (zC BK247.out 6).trans rfl⟩ (fun hHeld => ?_)
      clear hK K
      refine norm_ (a' := ?_) ?_ ?_
      rotate_left
      ·show Act.put _ (some 27) _ = _
       simp only [Act.put, List.setIfInBounds_toArray, List.set_cons_zero, List.set_cons_succ, i64_w, i32_w]
       rfl
      refine pure_ (i := 10) (N := some 28) (v := ?_) (a' := ?_) #[true, true, true, true, true, true, true, true, true, true, true, false] rfl rfl (any_of HT_.out (by kernel_rfl)) (fun _ _ _ h => h) (Or.inl ⟨by rfl, ?_⟩) ?_ ?_
      rotate_left
      ·intro w'
       go_simp
       with_reducible rfl
      rotate_left
      ·simp only [Act.put, List.setIfInBounds_toArray, List.set_cons_zero, List.set_cons_succ, i64_w, i32_w]
       rfl
      refine last_ (i := 11) (N := none) #[true, true, true, true, true, true, true, true, true, true, true, true] rfl rfl (one_of HT_.out (by kernel_rfl)) (by decide) (fun K hK => ?_)
      have hs66 : w64.cell? ⟨gb247, 1, none⟩ = some (.int .i64 8) := (zC BK247.out 1).trans rfl
      have hfs66 := zF BK247.out 1
      have hns66_0 := NB234_247.out
      have hms66_0 := NB247_234.out
      refine skip_ (w1 := ?_) (by rfl) rfl ?_ ?_
      rotate_left
      ·go_simp
       rfl
      refine hK.out _ _ ?_
      clear hK K
      refine done_ (done_of HT_.out (by kernel_rfl)) ?_
      try go_wp2_with (first | ((with_reducible refine gate_callee (f := 39) rfl ?_); refine goesL_ (some 30) rfl rfl Try.func39 (by kernel_rfl) rfl #[.pointer (some ⟨g, 0, none⟩), .int .i64 2] rfl (by (try simp only [List.map_toArray, List.map_cons, List.map_nil]); first | done | rfl | (simp only [List.length_drop, List.length_take]; rfl)) ?_; (with_reducible refine (spec_l30Rd_pick.calls k g s0_0 t252 2 t254 t255 w0 _ ?side1 ?side2 A11.out).mono ?_); (case side1 => repeat (first | (with_reducible first | exact HI0.out | apply IsS67.alloc | apply IsS67.drewN | apply IsS67.drew | apply IsS67.set_1 | refine IsS67.far ?_ NB0_234.out _ | refine IsS67.far ?_ NB0_247.out _) | exact HI0.out)); (case side2 => repeat (first | (with_reducible first | exact HB.out | apply yA | apply yN | apply yD | refine yS ?_ (IsS67.ge HI0.out) | refine yS ?_ GE234.out | refine yS ?_ GE247.out) | exact HB.out)); rintro e w67 ⟨rfl, hi, hb, hk⟩; refine ⟨_, rfl, ?_⟩; have n0_ := qM (KeepBut.blk hk (g' := gb234) (o := .cells #[.int .i64 0, .int .i64 0, .int .i64 0, .int .i64 0, .int .i64 0, .int .i64 0, .int .i64 0] 46 (0, 0)) (by (with_reducible repeat (first | refine zN ?_ _ | refine zD ?_ | refine zA ?_ _)); refine blk_far ?_ NB234_247.out _; (with_reducible repeat (first | refine zN ?_ _ | refine zD ?_ | refine zA ?_ _)); exact BK234.out) NB234_0.out (by simp)); have n1_ := qM (Kd.R_mono (Kd.R_keep (IsS67.apart (show IsS67 w0 _ g s0_0 t252 from by repeat (first | (with_reducible first | exact HI0.out | apply IsS67.alloc | apply IsS67.drewN | apply IsS67.drew | apply IsS67.set_1 | refine IsS67.far ?_ NB0_234.out _ | refine IsS67.far ?_ NB0_247.out _) | exact HI0.out)) (by (with_reducible repeat (first | apply qA | apply qN | apply qD)); exact (Kd.R_mono (qF (p := ⟨gb247, 1, none⟩) (Kd.R_types HO243.out BK247.out (by decide)) (fun _ hk => hk.2) (.int .i64 (rd y248 t251))) (fun _ h_ => h_.1))) (by decide)) hk (fun _ h => h.2)) (fun _ h => h.1)); have n2_ := qM (KeepBut.blk hk (g' := gb247) (o := .cells #[.int .i64 t235, .int .i64 (rd y248 t251), .int .i64 (wrap64 (t237 - 1)), .int .i64 0, .int .i64 255, .int .i64 (wrap64 (t239 - 1)), .int .i64 (rd y241 t244)] 46 (0, 0)) (by (with_reducible repeat (first | refine zN ?_ _ | refine zD ?_ | refine zA ?_ _)); refine blk_put (cs := #[.int .i64 t235, .int .i64 8, .int .i64 (wrap64 (t237 - 1)), .int .i64 0, .int .i64 255, .int .i64 (wrap64 (t239 - 1)), .int .i64 (rd y241 t244)]) ?_ 1 _ rfl; (with_reducible repeat (first | refine zN ?_ _ | refine zD ?_ | refine zA ?_ _)); exact BK247.out) NB247_0.out (by simp)); have n3_ := qM (Kd.R_mono (Kd.R_keep (IsS67.apart (show IsS67 w0 _ g s0_0 t252 from by repeat (first | (with_reducible first | exact HI0.out | apply IsS67.alloc | apply IsS67.drewN | apply IsS67.drew | apply IsS67.set_1 | refine IsS67.far ?_ NB0_234.out _ | refine IsS67.far ?_ NB0_247.out _) | exact HI0.out)) (by (with_reducible repeat (first | apply qA | apply qN | apply qD)); exact (Kd.R_mono (qF (p := ⟨gb247, 1, none⟩) (Kd.R_types HO250.out BK247.out (by decide)) (fun _ hk => hk.2) (.int .i64 (rd y248 t251))) (fun _ h_ => h_.1))) (by decide)) hk (fun _ h => h.2)) (fun _ h => h.1)); have n4_ := qM (KeepBut.trans (by repeat (first | (with_reducible first | exact HK.out | apply KeepBut.set_ | apply keep_drewN | apply keep_drew | apply keep_alloc | refine keep_far ?_ GW234.out _ | refine keep_far ?_ GW247.out _) | exact HK.out)) hk (.inl rfl)); have n5_ := qM (hb); have n6_ := qM (hi); clear BK234; clear HO243; clear BK247; clear HO250; clear HK; clear HB; clear HI0; have BK234 := n0_; have HO243 := n1_; have BK247 := n2_; have HO250 := n3_; have HK := n4_; have HB := n5_; have HI0 := n6_; clear n0_ n1_ n2_ n3_ n4_ n5_ n6_; (try clear hb); (try clear hb2); (try clear hk); (try clear hi); have hcz68_0 : w67.cell? ⟨gb247, 0, none⟩ = some (.int .i64 t235) := (zC BK247.out 0).trans rfl; have hcz68_1 : w67.cell? ⟨gb247, 1, none⟩ = some (.int .i64 (rd y248 t251)) := (zC BK247.out 1).trans rfl; have hcz68_2 : w67.cell? ⟨gb247, 2, none⟩ = some (.int .i64 (wrap64 (t237 - 1))) := (zC BK247.out 2).trans rfl; have hcz68_3 : w67.cell? ⟨gb247, 3, none⟩ = some (.int .i64 0) := (zC BK247.out 3).trans rfl; have hcz68_4 : w67.cell? ⟨gb247, 4, none⟩ = some (.int .i64 255) := (zC BK247.out 4).trans rfl; have hcz68_5 : w67.cell? ⟨gb247, 5, none⟩ = some (.int .i64 (wrap64 (t239 - 1))) := (zC BK247.out 5).trans rfl; have hcz68_6 : w67.cell? ⟨gb247, 6, none⟩ = some (.int .i64 (rd y241 t244)) := (zC BK247.out 6).trans rfl; have hfz68_0 := zF BK247.out 0; have hfz68_1 := zF BK247.out 1; have hfz68_2 := zF BK247.out 2; have hfz68_3 := zF BK247.out 3; have hfz68_4 := zF BK247.out 4; have hfz68_5 := zF BK247.out 5; have hfz68_6 := zF BK247.out 6; have hnb69 := NB234_0.out; have hnc69 := NB0_234.out; have hcz70_0 : w67.cell? ⟨gb234, 0, none⟩ = some (.int .i64 0) := (zC BK234.out 0).trans rfl; have hcz70_1 : w67.cell? ⟨gb234, 1, none⟩ = some (.int .i64 0) := (zC BK234.out 1).trans rfl; have hcz70_2 : w67.cell? ⟨gb234, 2, none⟩ = some (.int .i64 0) := (zC BK234.out 2).trans rfl; have hcz70_3 : w67.cell? ⟨gb234, 3, none⟩ = some (.int .i64 0) := (zC BK234.out 3).trans rfl; have hcz70_4 : w67.cell? ⟨gb234, 4, none⟩ = some (.int .i64 0) := (zC BK234.out 4).trans rfl; have hcz70_5 : w67.cell? ⟨gb234, 5, none⟩ = some (.int .i64 0) := (zC BK234.out 5).trans rfl; have hcz70_6 : w67.cell? ⟨gb234, 6, none⟩ = some (.int .i64 0) := (zC BK234.out 6).trans rfl; have hfz70_0 := zF BK234.out 0; have hfz70_1 := zF BK234.out 1; have hfz70_2 := zF BK234.out 2; have hfz70_3 := zF BK234.out 3; have hfz70_4 := zF BK234.out 4; have hfz70_5 := zF BK234.out 5; have hfz70_6 := zF BK234.out 6))
      refine bodyPost_ret (results_cell_row rfl _ _ gb234 46 #[.int .i64 t235, .int .i64 (rd y248 t251), .int .i64 (wrap64 (t237 - 1)), .int .i64 0, .int .i64 255, .int .i64 (wrap64 (t239 - 1)), .int .i64 (rd y241 t244)] (0, 0) _ rfl (by (with_reducible repeat (first | refine zN ?_ _ | refine zD ?_ | refine zA ?_ _)); refine blk_put (cs := #[.int .i64 t235, .int .i64 (rd y248 t251), .int .i64 (wrap64 (t237 - 1)), .int .i64 0, .int .i64 255, .int .i64 (wrap64 (t239 - 1)), .int .i64 0]) ?_ 6 _ rfl; (with_reducible repeat (first | refine zN ?_ _ | refine zD ?_ | refine zA ?_ _)); refine blk_put (cs := #[.int .i64 t235, .int .i64 (rd y248 t251), .int .i64 (wrap64 (t237 - 1)), .int .i64 0, .int .i64 255, .int .i64 0, .int .i64 0]) ?_ 5 _ rfl; (with_reducible repeat (first | refine zN ?_ _ | refine zD ?_ | refine zA ?_ _)); refine blk_put (cs := #[.int .i64 t235, .int .i64 (rd y248 t251), .int .i64 (wrap64 (t237 - 1)), .int .i64 0, .int .i64 0, .int .i64 0, .int .i64 0]) ?_ 4 _ rfl; (with_reducible repeat (first | refine zN ?_ _ | refine zD ?_ | refine zA ?_ _)); refine blk_put (cs := #[.int .i64 t235, .int .i64 (rd y248 t251), .int .i64 (wrap64 (t237 - 1)), .int .i64 0, .int .i64 0, .int .i64 0, .int .i64 0]) ?_ 3 _ rfl; (with_reducible repeat (first | refine zN ?_ _ | refine zD ?_ | refine zA ?_ _)); refine blk_put (cs := #[.int .i64 t235, .int .i64 (rd y248 t251), .int .i64 0, .int .i64 0, .int .i64 0, .int .i64 0, .int .i64 0]) ?_ 2 _ rfl; (with_reducible repeat (first | refine zN ?_ _ | refine zD ?_ | refine zA ?_ _)); refine blk_put (cs := #[.int .i64 t235, .int .i64 0, .int .i64 0, .int .i64 0, .int .i64 0, .int .i64 0, .int .i64 0]) ?_ 1 _ rfl; (with_reducible repeat (first | refine zN ?_ _ | refine zD ?_ | refine zA ?_ _)); refine blk_put (cs := #[.int .i64 0, .int .i64 0, .int .i64 0, .int .i64 0, .int .i64 0, .int .i64 0, .int .i64 0]) ?_ 0 _ rfl; (with_reducible repeat (first | refine zN ?_ _ | refine zD ?_ | refine zA ?_ _)); exact BK234.out) Try.underlying46 rfl (by kernel_rfl)) rfl ?_
      exact ⟨by first | rfl | (simp [errW_none, errW_some] <;> rfl) | (simp [*, errW_none, errW_some] <;> rfl), by repeat (first | (with_reducible first | exact HI0.out | apply IsS67.alloc | apply IsS67.drewN | apply IsS67.drew | apply IsS67.set_1 | refine IsS67.far ?_ NB0_234.out _ | refine IsS67.far ?_ NB0_247.out _) | exact HI0.out), by repeat (first | (with_reducible first | exact HB.out | apply yA | apply yN | apply yD | refine yS ?_ (IsS67.ge HI0.out) | refine yS ?_ GE234.out | refine yS ?_ GE247.out) | exact HB.out), by repeat (first | (with_reducible first | exact HK.out | apply KeepBut.set_ | apply keep_drewN | apply keep_drew | apply keep_alloc | refine keep_far ?_ GW234.out _ | refine keep_far ?_ GW247.out _) | exact HK.out)⟩
    ·rw [if_neg c10] at H
     exact absurd H (by simp)
   ·rw [if_neg c9] at H
    exact absurd H (by simp)
  ·rw [if_neg c7] at H
   exact absurd H (by simp)
 ·rw [if_neg c6] at H
  exact absurd H (by simp)

end Go.Proofs.Ytlmlbodbloahlaa.PFnGrdMore
