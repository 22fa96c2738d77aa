/- Functions that a law reaches, each with the walk that shows what its call answers; laid by a program of this session. -/
import Derived.Test.YtcnipdbommmkmaaPVgx0
namespace Go.Proofs.Ytcnipdbommmkmaa.PVg
open Go.RowKit Go.Proofs.YtcnipdbommmkmaaW.PrintWords Go.Proofs.YtcnipdbommmkmaaW.PrintLast Go.Proofs.YtcnipdbommmkmaaW.PrintMore
attribute [local go_sem] max2_int min2_int max_two min_two max_three min_three max_four min_four   -- for this text's walks alone
set_option linter.unusedVariables false
set_option linter.unusedSimpArgs false

/-! ### impl_VmOk: function 28 -/
def impl_VmOk.f (a0_0 : Int) (l0_1 : List Int) (l0_2 : List Int) (a0_3 : Int) : Option (Bool) := some (Go.Proofs.YtcnipdbommmkmaaVmOk.okB a0_0 l0_1 l0_2 a0_3)
theorem impl_VmOk.calls (a0_0 : Int) (A0_1 : Option Addr) (c0_1 : Nat) (l0_1 : List Int) (A0_2 : Option Addr) (c0_2 : Nat) (l0_2 : List Int) (a0_3 : Int) (r : Bool) (w : World) (hr0_1 : Kd.C (Kd.int .i64) w A0_1 l0_1.length l0_1) (hc0_1 : l0_1.length ≤ c0_1) (hr0_2 : Kd.C (Kd.int .i64) w A0_2 l0_2.length l0_2) (hc0_2 : l0_2.length ≤ c0_2) (h : impl_VmOk.f a0_0 l0_1 l0_2 a0_3 = some r) :
    Calls Try.prog 28 #[.agg #[.int .i64 a0_0, .slice A0_1 l0_1.length c0_1, .slice A0_2 l0_2.length c0_2, .int .i64 a0_3]] w fun e w' => e = .returned (.bool r) ∧ Below w.heap.size w w' := by
  obtain rfl := Option.some.inj h
  exact Go.Proofs.YtcnipdbommmkmaaVmOk.ok_any a0_0 a0_3 A0_1 c0_1 l0_1 A0_2 c0_2 l0_2 w hr0_1 hr0_2
open Go.Proofs.YtcnipdbommmkmaaAl Go.Proofs.YtcnipdbommmkmaaSq
/-! ### impl_BytMessage: function 60 -/
def impl_BytMessage.f (l0 : List Int) : Option (Bool) := some (decide ((l0.length : Int) ≤ 8))
set_option maxHeartbeats 8000000 in
set_option maxRecDepth 100000 in
theorem impl_BytMessage.calls (A0 : Option Addr) (c0 : Nat) (l0 : List Int) (r : Bool) (w : World) (hr0 : Kd.C (Kd.int .u8) w A0 l0.length l0) (hc0 : l0.length ≤ c0) (h : impl_BytMessage.f l0 = some r) :
  Calls Try.prog 60 #[.slice A0 l0.length c0] w fun e w' => e = .returned (.bool r) ∧ Drawn0 w w' := by
 have HR0 := qM hr0
 have HC0 := qM hc0
 clear hr0 hc0
 have H : (some (decide ((l0.length : Int) ≤ 8))) = some r := h
 clear h
 obtain rfl := Option.some.inj H
 go_enter Try.func60, Try.ntmps60
 go_wp2
 go_ret
 exact ⟨by first | rfl | (simp; done) | (simp [*]; done), by repeat (first | exact Drawn0.refl _ | apply Drawn0.step)⟩

open Go.Proofs.YtcnipdbommmkmaaAl Go.Proofs.YtcnipdbommmkmaaSq
/-! ### impl_vmByte: function 69 -/
def impl_vmByte.f (a0 : Int) : Option (Bool) := if a0 ≥ 0 then (some (decide (a0 ≤ 255))) else (some false)
set_option maxHeartbeats 8000000 in
set_option maxRecDepth 100000 in
theorem impl_vmByte.calls (a0 : Int) (r : Bool) (w : World) (h : impl_vmByte.f a0 = some r) :
  Calls Try.prog 69 #[.int .i64 a0] w fun e w' => e = .returned (.bool r) ∧ Drawn0 w w' := by
 have H : (if a0 ≥ 0 then (some (decide (a0 ≤ 255))) else (some false)) = some r := h
 clear h
 by_cases c2 : a0 ≥ 0
 ·rw [if_pos c2] at H
  have c2b0 : decide (0 ≤ a0) = true := decide_eq_true c2
  clear c2
  obtain rfl := Option.some.inj H
  go_enter Try.func69, Try.ntmps69
  go_wp2
  go_ret
  exact ⟨by first | rfl | (simp; done) | (simp [*]; done), by repeat (first | exact Drawn0.refl _ | apply Drawn0.step)⟩
 ·rw [if_neg c2] at H
  have c2b0 : decide (0 ≤ a0) = false := decide_eq_false c2
  clear c2
  obtain rfl := Option.some.inj H
  go_enter Try.func69, Try.ntmps69
  go_wp2
  go_ret
  exact ⟨by first | rfl | (simp; done) | (simp [*]; done), by repeat (first | exact Drawn0.refl _ | apply Drawn0.step)⟩

open Go.Proofs.YtcnipdbommmkmaaAl Go.Proofs.YtcnipdbommmkmaaSq
/-! ### impl_vmRegister: function 81 -/
def impl_vmRegister.f (a0 : Int) : Option (Bool) := if a0 ≥ 0 then (some (decide (a0 < 4))) else (some false)
set_option maxHeartbeats 8000000 in
set_option maxRecDepth 100000 in
theorem impl_vmRegister.calls (a0 : Int) (r : Bool) (w : World) (h : impl_vmRegister.f a0 = some r) :
  Calls Try.prog 81 #[.int .i64 a0] w fun e w' => e = .returned (.bool r) ∧ Drawn0 w w' := by
 have H : (if a0 ≥ 0 then (some (decide (a0 < 4))) else (some false)) = some r := h
 clear h
 by_cases c2 : a0 ≥ 0
 ·rw [if_pos c2] at H
  have c2b0 : decide (0 ≤ a0) = true := decide_eq_true c2
  clear c2
  obtain rfl := Option.some.inj H
  go_enter Try.func81, Try.ntmps81
  go_wp2
  go_ret
  exact ⟨by first | rfl | (simp; done) | (simp [*]; done), by repeat (first | exact Drawn0.refl _ | apply Drawn0.step)⟩
 ·rw [if_neg c2] at H
  have c2b0 : decide (0 ≤ a0) = false := decide_eq_false c2
  clear c2
  obtain rfl := Option.some.inj H
  go_enter Try.func81, Try.ntmps81
  go_wp2
  go_ret
  exact ⟨by first | rfl | (simp; done) | (simp [*]; done), by repeat (first | exact Drawn0.refl _ | apply Drawn0.step)⟩

open Go.Proofs.YtcnipdbommmkmaaAl Go.Proofs.YtcnipdbommmkmaaSq
/-! ### impl_vmAskOk: function 59 -/
def impl_vmAskOk.f (a0_0 : Int) (a0_1 : Int) (l0_2 : List Int) (a0_3 : Int) (a0_4 : Int) (a0_5 : Int) : Option (Bool) := if a0_0 ≥ 0 then (if a0_0 ≤ 5 then (if a0_1 ≥ 0 then (if a0_1 ≤ 9 then ((impl_BytMessage.f l0_2).bind fun t178 => (if t178 = true then ((impl_vmByte.f a0_3).bind fun t179 => (if t179 = true then ((impl_vmRegister.f a0_4).bind fun t180 => (if t180 = true then ((impl_vmRegister.f a0_5).bind fun t181 => (some t181)) else (some false))) else (some false))) else (some false))) else (some false)) else (some false)) else (some false)) else (some false)
set_option maxHeartbeats 8000000 in
set_option maxRecDepth 100000 in
theorem impl_vmAskOk.calls (a0_0 : Int) (a0_1 : Int) (A0_2 : Option Addr) (c0_2 : Nat) (l0_2 : List Int) (a0_3 : Int) (a0_4 : Int) (a0_5 : Int) (r : Bool) (w : World) (hr0_2 : Kd.C (Kd.int .u8) w A0_2 l0_2.length l0_2) (hc0_2 : l0_2.length ≤ c0_2) (h : impl_vmAskOk.f a0_0 a0_1 l0_2 a0_3 a0_4 a0_5 = some r) :
  Calls Try.prog 59 #[.agg #[.int .i64 a0_0, .int .i64 a0_1, .slice A0_2 l0_2.length c0_2, .int .i64 a0_3, .int .i64 a0_4, .int .i64 a0_5]] w fun e w' => e = .returned (.bool r) ∧ Below w.heap.size w w' := by
 have hu33 := Try.underlying33
 have HR0_2 := qM hr0_2
 have HC0_2 := qM hc0_2
 clear hr0_2 hc0_2
 have HB := qM (Below.refl w.heap.size w)
 have H : (if a0_0 ≥ 0 then (if a0_0 ≤ 5 then (if a0_1 ≥ 0 then (if a0_1 ≤ 9 then ((impl_BytMessage.f l0_2).bind fun t178 => (if t178 = true then ((impl_vmByte.f a0_3).bind fun t179 => (if t179 = true then ((impl_vmRegister.f a0_4).bind fun t180 => (if t180 = true then ((impl_vmRegister.f a0_5).bind fun t181 => (some t181)) else (some false))) else (some false))) else (some false))) else (some false)) else (some false)) else (some false)) else (some false)) = some r := h
 clear h
 by_cases c2 : a0_0 ≥ 0
 ·rw [if_pos c2] at H
  have c2b0 : decide (0 ≤ a0_0) = true := decide_eq_true c2
  clear c2
  by_cases c3 : a0_0 ≤ 5
  ·rw [if_pos c3] at H
   have c3b0 : decide (a0_0 ≤ 5) = true := decide_eq_true c3
   clear c3
   by_cases c4 : a0_1 ≥ 0
   ·rw [if_pos c4] at H
    have c4b0 : decide (0 ≤ a0_1) = true := decide_eq_true c4
    clear c4
    by_cases c5 : a0_1 ≤ 9
    ·rw [if_pos c5] at H
     have c5b0 : decide (a0_1 ≤ 9) = true := decide_eq_true c5
     clear c5
     replace H := Option.bind_eq_some_iff.mp H
     obtain ⟨t178, A60, H⟩ := H
     replace H : (if t178 = true then ((impl_vmByte.f a0_3).bind fun t179 => (if t179 = true then ((impl_vmRegister.f a0_4).bind fun t180 => (if t180 = true then ((impl_vmRegister.f a0_5).bind fun t181 => (some t181)) else (some false))) else (some false))) else (some false)) = some r := H
     have A6 := qM A60
     clear A60
     by_cases c7 : t178 = true
     ·subst c7
      have H1 : ((impl_vmByte.f a0_3).bind fun t179 => (if t179 = true then ((impl_vmRegister.f a0_4).bind fun t180 => (if t180 = true then ((impl_vmRegister.f a0_5).bind fun t181 => (some t181)) else (some false))) else (some false))) = some r := by rw [if_pos rfl] at H; exact H
      clear H
      have H := H1
      clear H1
      replace H := Option.bind_eq_some_iff.mp H
      obtain ⟨t179, A80, H⟩ := H
      replace H : (if t179 = true then ((impl_vmRegister.f a0_4).bind fun t180 => (if t180 = true then ((impl_vmRegister.f a0_5).bind fun t181 => (some t181)) else (some false))) else (some false)) = some r := H
      have A8 := qM A80
      clear A80
      by_cases c9 : t179 = true
      ·subst c9
       have H1 : ((impl_vmRegister.f a0_4).bind fun t180 => (if t180 = true then ((impl_vmRegister.f a0_5).bind fun t181 => (some t181)) else (some false))) = some r := by rw [if_pos rfl] at H; exact H
       clear H
       have H := H1
       clear H1
       replace H := Option.bind_eq_some_iff.mp H
       obtain ⟨t180, A100, H⟩ := H
       replace H : (if t180 = true then ((impl_vmRegister.f a0_5).bind fun t181 => (some t181)) else (some false)) = some r := H
       have A10 := qM A100
       clear A100
       by_cases c11 : t180 = true
       ·subst c11
        have H1 : ((impl_vmRegister.f a0_5).bind fun t181 => (some t181)) = some r := by rw [if_pos rfl] at H; exact H
        clear H
        have H := H1
        clear H1
        replace H := Option.bind_eq_some_iff.mp H
        obtain ⟨t181, A120, H⟩ := H
        replace H : (some t181) = some r := H
        have A12 := qM A120
        clear A120
        obtain rfl := Option.some.inj H
        go_enter Try.func59, Try.ntmps59
        go_wp2_with (first | ((with_reducible refine gate_dst (N := 1) rfl ?_); refine box_event ?hg (N := 1) ?hd (cs := #[.int .i64 a0_0, .int .i64 a0_1, .slice A0_2 l0_2.length c0_2, .int .i64 a0_3, .int .i64 a0_4, .int .i64 a0_5]) (t := 33) ?hr ?_; (case hd => rfl); (case hg => rfl); (case hr => first | (go_simp; done) | (go_simp; rfl)); intro gb177 hg w13 hbox hb; have n0_ := qM (below_step (yb HB) hb); have n1_ := qM (hbox); have n2_ := qM ((by rw [hg]; exact (below_size (yb HB)) : w.heap.size ≤ gb177)); have n3_ := qM ((by rw [hg]; exact (below_size (yb HB)) : w.heap.size ≤ gb177)); clear HB; revert n0_ n1_ n2_ n3_; intro HB BK177 GW177 GE177; clear hb hbox hg; have hcz14_0 : w13.cell? ⟨gb177, 0, none⟩ = some (.int .i64 a0_0) := (zC BK177.out 0).trans rfl; have hcz14_1 : w13.cell? ⟨gb177, 1, none⟩ = some (.int .i64 a0_1) := (zC BK177.out 1).trans rfl; have hcz14_2 : w13.cell? ⟨gb177, 2, none⟩ = some (.slice A0_2 l0_2.length c0_2) := (zC BK177.out 2).trans rfl; have hcz14_3 : w13.cell? ⟨gb177, 3, none⟩ = some (.int .i64 a0_3) := (zC BK177.out 3).trans rfl; have hcz14_4 : w13.cell? ⟨gb177, 4, none⟩ = some (.int .i64 a0_4) := (zC BK177.out 4).trans rfl; have hcz14_5 : w13.cell? ⟨gb177, 5, none⟩ = some (.int .i64 a0_5) := (zC BK177.out 5).trans rfl; have hfz14_0 := zF BK177.out 0; have hfz14_1 := zF BK177.out 1; have hfz14_2 := zF BK177.out 2; have hfz14_3 := zF BK177.out 3; have hfz14_4 := zF BK177.out 4; have hfz14_5 := zF BK177.out 5) | (go_at_call 60; (with_reducible refine (impl_BytMessage.calls _ _ l0_2 true _ ?side1 ?side2 A6.out).mono ?_); (case side1 => repeat (first | exact (Kd.C_below HR0_2.out HB.out) | (with_reducible refine Kd.C_alloc ?_ _) | (with_reducible refine Kd.C_drewN ?_ _) | (with_reducible refine Kd.C_drew ?_))); (case side2 => exact HC0_2.out); rintro e w' ⟨rfl, ⟨nd, rfl⟩⟩) | (go_at_call 69; (with_reducible refine (impl_vmByte.calls a0_3 true _ A8.out).mono ?_); rintro e w' ⟨rfl, ⟨nd, rfl⟩⟩) | (go_at_call 81; (with_reducible refine (impl_vmRegister.calls a0_4 true _ A10.out).mono ?_); rintro e w' ⟨rfl, ⟨nd, rfl⟩⟩) | (go_at_call 81; (with_reducible refine (impl_vmRegister.calls a0_5 t181 _ A12.out).mono ?_); rintro e w' ⟨rfl, ⟨nd, rfl⟩⟩))
        go_ret
        exact ⟨by first | rfl | (simp [errW_none, errW_some] <;> rfl) | (simp [*, errW_none, errW_some] <;> rfl), by repeat (first | (with_reducible first | exact HB.out | apply yA | apply yN | apply yD | refine yS ?_ GE177.out) | exact HB.out)⟩
       ·replace c11 := Bool.eq_false_iff.mpr c11
        subst c11
        have H1 : (some false) = some r := by rw [if_neg (show ¬ (false = true) by decide)] at H; exact H
        clear H
        have H := H1
        clear H1
        obtain rfl := Option.some.inj H
        go_enter Try.func59, Try.ntmps59
        go_wp2_with (first | ((with_reducible refine gate_dst (N := 1) rfl ?_); refine box_event ?hg (N := 1) ?hd (cs := #[.int .i64 a0_0, .int .i64 a0_1, .slice A0_2 l0_2.length c0_2, .int .i64 a0_3, .int .i64 a0_4, .int .i64 a0_5]) (t := 33) ?hr ?_; (case hd => rfl); (case hg => rfl); (case hr => first | (go_simp; done) | (go_simp; rfl)); intro gb177 hg w15 hbox hb; have n0_ := qM (below_step (yb HB) hb); have n1_ := qM (hbox); have n2_ := qM ((by rw [hg]; exact (below_size (yb HB)) : w.heap.size ≤ gb177)); have n3_ := qM ((by rw [hg]; exact (below_size (yb HB)) : w.heap.size ≤ gb177)); clear HB; revert n0_ n1_ n2_ n3_; intro HB BK177 GW177 GE177; clear hb hbox hg; have hcz16_0 : w15.cell? ⟨gb177, 0, none⟩ = some (.int .i64 a0_0) := (zC BK177.out 0).trans rfl; have hcz16_1 : w15.cell? ⟨gb177, 1, none⟩ = some (.int .i64 a0_1) := (zC BK177.out 1).trans rfl; have hcz16_2 : w15.cell? ⟨gb177, 2, none⟩ = some (.slice A0_2 l0_2.length c0_2) := (zC BK177.out 2).trans rfl; have hcz16_3 : w15.cell? ⟨gb177, 3, none⟩ = some (.int .i64 a0_3) := (zC BK177.out 3).trans rfl; have hcz16_4 : w15.cell? ⟨gb177, 4, none⟩ = some (.int .i64 a0_4) := (zC BK177.out 4).trans rfl; have hcz16_5 : w15.cell? ⟨gb177, 5, none⟩ = some (.int .i64 a0_5) := (zC BK177.out 5).trans rfl; have hfz16_0 := zF BK177.out 0; have hfz16_1 := zF BK177.out 1; have hfz16_2 := zF BK177.out 2; have hfz16_3 := zF BK177.out 3; have hfz16_4 := zF BK177.out 4; have hfz16_5 := zF BK177.out 5) | (go_at_call 60; (with_reducible refine (impl_BytMessage.calls _ _ l0_2 true _ ?side1 ?side2 A6.out).mono ?_); (case side1 => repeat (first | exact (Kd.C_below HR0_2.out HB.out) | (with_reducible refine Kd.C_alloc ?_ _) | (with_reducible refine Kd.C_drewN ?_ _) | (with_reducible refine Kd.C_drew ?_))); (case side2 => exact HC0_2.out); rintro e w' ⟨rfl, ⟨nd, rfl⟩⟩) | (go_at_call 69; (with_reducible refine (impl_vmByte.calls a0_3 true _ A8.out).mono ?_); rintro e w' ⟨rfl, ⟨nd, rfl⟩⟩) | (go_at_call 81; (with_reducible refine (impl_vmRegister.calls a0_4 false _ A10.out).mono ?_); rintro e w' ⟨rfl, ⟨nd, rfl⟩⟩))
        go_ret
        exact ⟨by first | rfl | (simp [errW_none, errW_some] <;> rfl) | (simp [*, errW_none, errW_some] <;> rfl), by repeat (first | (with_reducible first | exact HB.out | apply yA | apply yN | apply yD | refine yS ?_ GE177.out) | exact HB.out)⟩
      ·replace c9 := Bool.eq_false_iff.mpr c9
       subst c9
       have H1 : (some false) = some r := by rw [if_neg (show ¬ (false = true) by decide)] at H; exact H
       clear H
       have H := H1
       clear H1
       obtain rfl := Option.some.inj H
       go_enter Try.func59, Try.ntmps59
       go_wp2_with (first | ((with_reducible refine gate_dst (N := 1) rfl ?_); refine box_event ?hg (N := 1) ?hd (cs := #[.int .i64 a0_0, .int .i64 a0_1, .slice A0_2 l0_2.length c0_2, .int .i64 a0_3, .int .i64 a0_4, .int .i64 a0_5]) (t := 33) ?hr ?_; (case hd => rfl); (case hg => rfl); (case hr => first | (go_simp; done) | (go_simp; rfl)); intro gb177 hg w17 hbox hb; have n0_ := qM (below_step (yb HB) hb); have n1_ := qM (hbox); have n2_ := qM ((by rw [hg]; exact (below_size (yb HB)) : w.heap.size ≤ gb177)); have n3_ := qM ((by rw [hg]; exact (below_size (yb HB)) : w.heap.size ≤ gb177)); clear HB; revert n0_ n1_ n2_ n3_; intro HB BK177 GW177 GE177; clear hb hbox hg; have hcz18_0 : w17.cell? ⟨gb177, 0, none⟩ = some (.int .i64 a0_0) := (zC BK177.out 0).trans rfl; have hcz18_1 : w17.cell? ⟨gb177, 1, none⟩ = some (.int .i64 a0_1) := (zC BK177.out 1).trans rfl; have hcz18_2 : w17.cell? ⟨gb177, 2, none⟩ = some (.slice A0_2 l0_2.length c0_2) := (zC BK177.out 2).trans rfl; have hcz18_3 : w17.cell? ⟨gb177, 3, none⟩ = some (.int .i64 a0_3) := (zC BK177.out 3).trans rfl; have hcz18_4 : w17.cell? ⟨gb177, 4, none⟩ = some (.int .i64 a0_4) := (zC BK177.out 4).trans rfl; have hcz18_5 : w17.cell? ⟨gb177, 5, none⟩ = some (.int .i64 a0_5) := (zC BK177.out 5).trans rfl; have hfz18_0 := zF BK177.out 0; have hfz18_1 := zF BK177.out 1; have hfz18_2 := zF BK177.out 2; have hfz18_3 := zF BK177.out 3; have hfz18_4 := zF BK177.out 4; have hfz18_5 := zF BK177.out 5) | (go_at_call 60; (with_reducible refine (impl_BytMessage.calls _ _ l0_2 true _ ?side1 ?side2 A6.out).mono ?_); (case side1 => repeat (first | exact (Kd.C_below HR0_2.out HB.out) | (with_reducible refine Kd.C_alloc ?_ _) | (with_reducible refine Kd.C_drewN ?_ _) | (with_reducible refine Kd.C_drew ?_))); (case side2 => exact HC0_2.out); rintro e w' ⟨rfl, ⟨nd, rfl⟩⟩) | (go_at_call 69; (with_reducible refine (impl_vmByte.calls a0_3 false _ A8.out).mono ?_); rintro e w' ⟨rfl, ⟨nd, rfl⟩⟩))
       go_ret
       exact ⟨by first | rfl | (simp [errW_none, errW_some] <;> rfl) | (simp [*, errW_none, errW_some] <;> rfl), by repeat (first | (with_reducible first | exact HB.out | apply yA | apply yN | apply yD | refine yS ?_ GE177.out) | exact HB.out)⟩
     ·replace c7 := Bool.eq_false_iff.mpr c7
      subst c7
      have H1 : (some false) = some r := by rw [if_neg (show ¬ (false = true) by decide)] at H; exact H
      clear H
      have H := H1
      clear H1
      obtain rfl := Option.some.inj H
      go_enter Try.func59, Try.ntmps59
      go_wp2_with (first | ((with_reducible refine gate_dst (N := 1) rfl ?_); refine box_event ?hg (N := 1) ?hd (cs := #[.int .i64 a0_0, .int .i64 a0_1, .slice A0_2 l0_2.length c0_2, .int .i64 a0_3, .int .i64 a0_4, .int .i64 a0_5]) (t := 33) ?hr ?_; (case hd => rfl); (case hg => rfl); (case hr => first | (go_simp; done) | (go_simp; rfl)); intro gb177 hg w19 hbox hb; have n0_ := qM (below_step (yb HB) hb); have n1_ := qM (hbox); have n2_ := qM ((by rw [hg]; exact (below_size (yb HB)) : w.heap.size ≤ gb177)); have n3_ := qM ((by rw [hg]; exact (below_size (yb HB)) : w.heap.size ≤ gb177)); clear HB; revert n0_ n1_ n2_ n3_; intro HB BK177 GW177 GE177; clear hb hbox hg; have hcz20_0 : w19.cell? ⟨gb177, 0, none⟩ = some (.int .i64 a0_0) := (zC BK177.out 0).trans rfl; have hcz20_1 : w19.cell? ⟨gb177, 1, none⟩ = some (.int .i64 a0_1) := (zC BK177.out 1).trans rfl; have hcz20_2 : w19.cell? ⟨gb177, 2, none⟩ = some (.slice A0_2 l0_2.length c0_2) := (zC BK177.out 2).trans rfl; have hcz20_3 : w19.cell? ⟨gb177, 3, none⟩ = some (.int .i64 a0_3) := (zC BK177.out 3).trans rfl; have hcz20_4 : w19.cell? ⟨gb177, 4, none⟩ = some (.int .i64 a0_4) := (zC BK177.out 4).trans rfl; have hcz20_5 : w19.cell? ⟨gb177, 5, none⟩ = some (.int .i64 a0_5) := (zC BK177.out 5).trans rfl; have hfz20_0 := zF BK177.out 0; have hfz20_1 := zF BK177.out 1; have hfz20_2 := zF BK177.out 2; have hfz20_3 := zF BK177.out 3; have hfz20_4 := zF BK177.out 4; have hfz20_5 := zF BK177.out 5) | (go_at_call 60; (with_reducible refine (impl_BytMessage.calls _ _ l0_2 false _ ?side1 ?side2 A6.out).mono ?_); (case side1 => repeat (first | exact (Kd.C_below HR0_2.out HB.out) | (with_reducible refine Kd.C_alloc ?_ _) | (with_reducible refine Kd.C_drewN ?_ _) | (with_reducible refine Kd.C_drew ?_))); (case side2 => exact HC0_2.out); rintro e w' ⟨rfl, ⟨nd, rfl⟩⟩))
      go_ret
      exact ⟨by first | rfl | (simp [errW_none, errW_some] <;> rfl) | (simp [*, errW_none, errW_some] <;> rfl), by repeat (first | (with_reducible first | exact HB.out | apply yA | apply yN | apply yD | refine yS ?_ GE177.out) | exact HB.out)⟩
    ·rw [if_neg c5] at H
     have c5b0 : decide (a0_1 ≤ 9) = false := decide_eq_false c5
     clear c5
     obtain rfl := Option.some.inj H
     go_enter Try.func59, Try.ntmps59
     go_wp2_with (first | ((with_reducible refine gate_dst (N := 1) rfl ?_); refine box_event ?hg (N := 1) ?hd (cs := #[.int .i64 a0_0, .int .i64 a0_1, .slice A0_2 l0_2.length c0_2, .int .i64 a0_3, .int .i64 a0_4, .int .i64 a0_5]) (t := 33) ?hr ?_; (case hd => rfl); (case hg => rfl); (case hr => first | (go_simp; done) | (go_simp; rfl)); intro gb177 hg w21 hbox hb; have n0_ := qM (below_step (yb HB) hb); have n1_ := qM (hbox); have n2_ := qM ((by rw [hg]; exact (below_size (yb HB)) : w.heap.size ≤ gb177)); have n3_ := qM ((by rw [hg]; exact (below_size (yb HB)) : w.heap.size ≤ gb177)); clear HB; revert n0_ n1_ n2_ n3_; intro HB BK177 GW177 GE177; clear hb hbox hg; have hcz22_0 : w21.cell? ⟨gb177, 0, none⟩ = some (.int .i64 a0_0) := (zC BK177.out 0).trans rfl; have hcz22_1 : w21.cell? ⟨gb177, 1, none⟩ = some (.int .i64 a0_1) := (zC BK177.out 1).trans rfl; have hcz22_2 : w21.cell? ⟨gb177, 2, none⟩ = some (.slice A0_2 l0_2.length c0_2) := (zC BK177.out 2).trans rfl; have hcz22_3 : w21.cell? ⟨gb177, 3, none⟩ = some (.int .i64 a0_3) := (zC BK177.out 3).trans rfl; have hcz22_4 : w21.cell? ⟨gb177, 4, none⟩ = some (.int .i64 a0_4) := (zC BK177.out 4).trans rfl; have hcz22_5 : w21.cell? ⟨gb177, 5, none⟩ = some (.int .i64 a0_5) := (zC BK177.out 5).trans rfl; have hfz22_0 := zF BK177.out 0; have hfz22_1 := zF BK177.out 1; have hfz22_2 := zF BK177.out 2; have hfz22_3 := zF BK177.out 3; have hfz22_4 := zF BK177.out 4; have hfz22_5 := zF BK177.out 5))
     go_ret
     exact ⟨by first | rfl | (simp [errW_none, errW_some] <;> rfl) | (simp [*, errW_none, errW_some] <;> rfl), by repeat (first | (with_reducible first | exact HB.out | apply yA | apply yN | apply yD | refine yS ?_ GE177.out) | exact HB.out)⟩
   ·rw [if_neg c4] at H
    have c4b0 : decide (0 ≤ a0_1) = false := decide_eq_false c4
    clear c4
    obtain rfl := Option.some.inj H
    go_enter Try.func59, Try.ntmps59
    go_wp2_with (first | ((with_reducible refine gate_dst (N := 1) rfl ?_); refine box_event ?hg (N := 1) ?hd (cs := #[.int .i64 a0_0, .int .i64 a0_1, .slice A0_2 l0_2.length c0_2, .int .i64 a0_3, .int .i64 a0_4, .int .i64 a0_5]) (t := 33) ?hr ?_; (case hd => rfl); (case hg => rfl); (case hr => first | (go_simp; done) | (go_simp; rfl)); intro gb177 hg w23 hbox hb; have n0_ := qM (below_step (yb HB) hb); have n1_ := qM (hbox); have n2_ := qM ((by rw [hg]; exact (below_size (yb HB)) : w.heap.size ≤ gb177)); have n3_ := qM ((by rw [hg]; exact (below_size (yb HB)) : w.heap.size ≤ gb177)); clear HB; revert n0_ n1_ n2_ n3_; intro HB BK177 GW177 GE177; clear hb hbox hg; have hcz24_0 : w23.cell? ⟨gb177, 0, none⟩ = some (.int .i64 a0_0) := (zC BK177.out 0).trans rfl; have hcz24_1 : w23.cell? ⟨gb177, 1, none⟩ = some (.int .i64 a0_1) := (zC BK177.out 1).trans rfl; have hcz24_2 : w23.cell? ⟨gb177, 2, none⟩ = some (.slice A0_2 l0_2.length c0_2) := (zC BK177.out 2).trans rfl; have hcz24_3 : w23.cell? ⟨gb177, 3, none⟩ = some (.int .i64 a0_3) := (zC BK177.out 3).trans rfl; have hcz24_4 : w23.cell? ⟨gb177, 4, none⟩ = some (.int .i64 a0_4) := (zC BK177.out 4).trans rfl; have hcz24_5 : w23.cell? ⟨gb177, 5, none⟩ = some (.int .i64 a0_5) := (zC BK177.out 5).trans rfl; have hfz24_0 := zF BK177.out 0; have hfz24_1 := zF BK177.out 1; have hfz24_2 := zF BK177.out 2; have hfz24_3 := zF BK177.out 3; have hfz24_4 := zF BK177.out 4; have hfz24_5 := zF BK177.out 5))
    go_ret
    exact ⟨by first | rfl | (simp [errW_none, errW_some] <;> rfl) | (simp [*, errW_none, errW_some] <;> rfl), by repeat (first | (with_reducible first | exact HB.out | apply yA | apply yN | apply yD | refine yS ?_ GE177.out) | exact HB.out)⟩
  ·rw [if_neg c3] at H
   have c3b0 : decide (a0_0 ≤ 5) = false := decide_eq_false c3
   clear c3
   obtain rfl := Option.some.inj H
   go_enter Try.func59, Try.ntmps59
   go_wp2_with (first | ((with_reducible refine gate_dst (N := 1) rfl ?_); refine box_event ?hg (N := 1) ?hd (cs := #[.int .i64 a0_0, .int .i64 a0_1, .slice A0_2 l0_2.length c0_2, .int .i64 a0_3, .int .i64 a0_4, .int .i64 a0_5]) (t := 33) ?hr ?_; (case hd => rfl); (case hg => rfl); (case hr => first | (go_simp; done) | (go_simp; rfl)); intro gb177 hg w25 hbox hb; have n0_ := qM (below_step (yb HB) hb); have n1_ := qM (hbox); have n2_ := qM ((by rw [hg]; exact (below_size (yb HB)) : w.heap.size ≤ gb177)); have n3_ := qM ((by rw [hg]; exact (below_size (yb HB)) : w.heap.size ≤ gb177)); clear HB; revert n0_ n1_ n2_ n3_; intro HB BK177 GW177 GE177; clear hb hbox hg; have hcz26_0 : w25.cell? ⟨gb177, 0, none⟩ = some (.int .i64 a0_0) := (zC BK177.out 0).trans rfl; have hcz26_1 : w25.cell? ⟨gb177, 1, none⟩ = some (.int .i64 a0_1) := (zC BK177.out 1).trans rfl; have hcz26_2 : w25.cell? ⟨gb177, 2, none⟩ = some (.slice A0_2 l0_2.length c0_2) := (zC BK177.out 2).trans rfl; have hcz26_3 : w25.cell? ⟨gb177, 3, none⟩ = some (.int .i64 a0_3) := (zC BK177.out 3).trans rfl; have hcz26_4 : w25.cell? ⟨gb177, 4, none⟩ = some (.int .i64 a0_4) := (zC BK177.out 4).trans rfl; have hcz26_5 : w25.cell? ⟨gb177, 5, none⟩ = some (.int .i64 a0_5) := (zC BK177.out 5).trans rfl; have hfz26_0 := zF BK177.out 0; have hfz26_1 := zF BK177.out 1; have hfz26_2 := zF BK177.out 2; have hfz26_3 := zF BK177.out 3; have hfz26_4 := zF BK177.out 4; have hfz26_5 := zF BK177.out 5))
   go_ret
   exact ⟨by first | rfl | (simp [errW_none, errW_some] <;> rfl) | (simp [*, errW_none, errW_some] <;> rfl), by repeat (first | (with_reducible first | exact HB.out | apply yA | apply yN | apply yD | refine yS ?_ GE177.out) | exact HB.out)⟩
 ·rw [if_neg c2] at H
  have c2b0 : decide (0 ≤ a0_0) = false := decide_eq_false c2
  clear c2
  obtain rfl := Option.some.inj H
  go_enter Try.func59, Try.ntmps59
  go_wp2_with (first | ((with_reducible refine gate_dst (N := 1) rfl ?_); refine box_event ?hg (N := 1) ?hd (cs := #[.int .i64 a0_0, .int .i64 a0_1, .slice A0_2 l0_2.length c0_2, .int .i64 a0_3, .int .i64 a0_4, .int .i64 a0_5]) (t := 33) ?hr ?_; (case hd => rfl); (case hg => rfl); (case hr => first | (go_simp; done) | (go_simp; rfl)); intro gb177 hg w27 hbox hb; have n0_ := qM (below_step (yb HB) hb); have n1_ := qM (hbox); have n2_ := qM ((by rw [hg]; exact (below_size (yb HB)) : w.heap.size ≤ gb177)); have n3_ := qM ((by rw [hg]; exact (below_size (yb HB)) : w.heap.size ≤ gb177)); clear HB; revert n0_ n1_ n2_ n3_; intro HB BK177 GW177 GE177; clear hb hbox hg; have hcz28_0 : w27.cell? ⟨gb177, 0, none⟩ = some (.int .i64 a0_0) := (zC BK177.out 0).trans rfl; have hcz28_1 : w27.cell? ⟨gb177, 1, none⟩ = some (.int .i64 a0_1) := (zC BK177.out 1).trans rfl; have hcz28_2 : w27.cell? ⟨gb177, 2, none⟩ = some (.slice A0_2 l0_2.length c0_2) := (zC BK177.out 2).trans rfl; have hcz28_3 : w27.cell? ⟨gb177, 3, none⟩ = some (.int .i64 a0_3) := (zC BK177.out 3).trans rfl; have hcz28_4 : w27.cell? ⟨gb177, 4, none⟩ = some (.int .i64 a0_4) := (zC BK177.out 4).trans rfl; have hcz28_5 : w27.cell? ⟨gb177, 5, none⟩ = some (.int .i64 a0_5) := (zC BK177.out 5).trans rfl; have hfz28_0 := zF BK177.out 0; have hfz28_1 := zF BK177.out 1; have hfz28_2 := zF BK177.out 2; have hfz28_3 := zF BK177.out 3; have hfz28_4 := zF BK177.out 4; have hfz28_5 := zF BK177.out 5))
  go_ret
  exact ⟨by first | rfl | (simp [errW_none, errW_some] <;> rfl) | (simp [*, errW_none, errW_some] <;> rfl), by repeat (first | (with_reducible first | exact HB.out | apply yA | apply yN | apply yD | refine yS ?_ GE177.out) | exact HB.out)⟩

end Go.Proofs.Ytcnipdbommmkmaa.PVg
