/- What VmOk answers: whether a machine's numbers are in their bounds. Conditions: none. -/
import Derived.Test.YtcnipdbommmkmaaProg
import Derived.Test.YtcnipdbommmkmaaVMore
import Derived.WalkKit
import Derived.RegionTactic
import Derived.Deep.RegionWith
import Derived.Deep.QuietTactic
import Derived.BigQuiet
import Derived.IntWalk
set_option linter.unusedVariables false
set_option linter.unusedSimpArgs false
namespace Go.Proofs.YtcnipdbommmkmaaVmOk
open Go.RowKit Go.Proofs.YtcnipdbommmkmaaW.PrintWords Go.Proofs.YtcnipdbommmkmaaW.PrintMore
attribute [local go_sem] max2_int

theorem ret_bool {a b : Bool} (h : a = b) : (Ending.returned (.bool a)) = .returned (.bool b) := by rw [h]
def byteB (n : Int) : Bool := decide (0 ≤ n ∧ n ≤ 255)
theorem byte_any (n : Int) (w : World) : Calls Try.prog 69 #[.int .i64 n] w fun e w' => e = .returned (.bool (byteB n)) ∧ w = w' := by
  go_enter Try.func69, Try.ntmps69
  go_wp2
  all_goals go_ret
  all_goals exact ⟨ret_bool (by unfold byteB; first | (symm; rw [decide_eq_false_iff_not]; omega) | (rw [decide_eq_decide]; omega)), rfl⟩
theorem read_cells {w : World} {k : IntKind} {A : Option Addr} {l : List Int} (hr : Kd.C (Kd.int k) w A l.length l) (h0 : 0 < l.length) : ∃ ad, A = some ad ∧ ∀ j, j < l.length → w.cell? (ad.add j) = some (.int k (rd l (j : Int))) := by
  obtain ⟨ad, hA, hc⟩ := hr.2.2 h0
  refine ⟨ad, hA, fun j hj => ?_⟩
  obtain ⟨c, _, hK, hcell⟩ := hc j l[j] (List.getElem?_eq_getElem hj)
  have hK' : c = [Value.int k l[j]] := hK
  subst hK'
  have := hcell 0 _ rfl
  have e : (Kd.int k).sz = 1 := rfl
  rw [e, Nat.mul_one, Nat.add_zero] at this
  rw [this]
  simp [rd, hj]
def bytesB (l : List Int) (k : Nat) : Bool := (l.take k).all byteB
theorem bytesB_step {l : List Int} {k : Nat} (h : k < l.length) : bytesB l (k + 1) = (bytesB l k && byteB (rd l (k : Int))) := by
  unfold bytesB
  rw [List.take_succ_eq_append_getElem h, List.all_append]
  simp [rd, h]
theorem bytesB_end (l : List Int) (k : Nat) (h : l.length ≤ k) : bytesB l k = l.all byteB := by
  unfold bytesB
  rw [List.take_of_length_le h]
theorem bytesB_no {l : List Int} {k : Nat} (h : k < l.length) (hb : byteB (rd l (k : Int)) = false) : l.all byteB = false := by
  rw [List.all_eq_false]
  refine ⟨l[k], List.getElem_mem h, ?_⟩
  have : rd l (k : Int) = l[k] := by simp [rd, h]
  rw [← this, hb]
  simp
def okB (pc : Int) (l1 l2 : List Int) (h : Int) : Bool :=
  decide (0 ≤ pc ∧ pc ≤ 24) && (decide (l1.length = 4) && (decide (l2.length = 8) && (l1.all byteB && (l2.all byteB && (h == 0 || (h == 1 || h == 2))))))

set_option maxRecDepth 100000 in
set_option maxHeartbeats 4000000 in
theorem ok_core (ad1 ad2 : Addr) (c1 c2 : Nat) (pc h : Int) (l1 l2 : List Int) (w : World) (h1 : Kd.C (Kd.int .i64) w (some ad1) l1.length l1) (h2 : Kd.C (Kd.int .i64) w (some ad2) l2.length l2) (n1 : l1.length = 4) (n2 : l2.length = 8) (p0 : 0 ≤ pc) (p1 : pc ≤ 24) :
    Calls Try.prog 28 #[.agg #[.int .i64 pc, .slice (some ad1) 4 c1, .slice (some ad2) 8 c2, .int .i64 h]] w fun e w' => e = .returned (.bool (okB pc l1 l2 h)) ∧ Below w.heap.size w w' := by
  have HC1 := Aside0.mk h1
  have HC2 := Aside0.mk h2
  have HN := Aside0.mk n1
  have HN2 := Aside0.mk n2
  obtain ⟨R, hR⟩ : ∃ R, okB pc l1 l2 h = R := ⟨_, rfl⟩
  rw [hR]
  have HR := Aside0.mk hR
  clear hR h1 h2 n1 n2
  go_enter Try.func28, Try.ntmps28
  have hi0 : ∀ W : World, (Instr.index 83 (.agg #[.slice (some ad1) 4 c1, .slice (some ad2) 8 c2]) (.int .i64 0)).run Try.prog W = .ok (.slice (some ad1) 4 c1) W := fun _ => by kernel_rfl
  have hi1 : ∀ W : World, (Instr.index 83 (.agg #[.slice (some ad1) 4 c1, .slice (some ad2) 8 c2]) (.int .i64 1)).run Try.prog W = .ok (.slice (some ad2) 8 c2) W := fun _ => by kernel_rfl
  go_wp2
  obtain ⟨W, hW⟩ : ∃ W, w.alloc (.cells #[.int .i64 pc, .slice (some ad1) 4 c1, .slice (some ad2) 8 c2, .int .i64 h] 30) = W := ⟨_, rfl⟩
  have HB : Below w.heap.size w W := by rw [← hW]; exact (Below.refl _ _).alloc (Nat.le_refl _) _
  have f3 : W.cell? ⟨w.heap.size, 3, none⟩ = some (.int .i64 h) := by have hb := heap_alloc_new w (.cells #[.int .i64 pc, .slice (some ad1) 4 c1, .slice (some ad2) 8 c2, .int .i64 h] 30); rw [hW] at hb; simp [World.cell?, hb]
  have HA1 : ∃ A, some ad1 = some A ∧ ∀ j, j < l1.length → W.cell? (A.add j) = some (.int .i64 (rd l1 (j : Int))) := read_cells (by rw [← hW]; exact Kd.C_alloc HC1.out _) (by rw [HN.out]; omega)
  have HA2 : ∃ A, some ad2 = some A ∧ ∀ j, j < l2.length → W.cell? (A.add j) = some (.int .i64 (rd l2 (j : Int))) := read_cells (by rw [← hW]; exact Kd.C_alloc HC2.out _) (by rw [HN2.out]; omega)
  obtain ⟨_, e1, hc1⟩ := HA1
  cases e1
  obtain ⟨_, e2, hc2⟩ := HA2
  cases e2
  have HCC1 := Aside0.mk hc1
  have HCC2 := Aside0.mk hc2
  have HBB := Aside0.mk HB
  have HF := Aside0.mk f3
  rw [hW]
  clear hW HB f3 hc1 hc2
  go_loop [32] (fun i => (i = .int .i64 0) ∨ (i = .int .i64 1 ∧ Aside0 (l1.all byteB = true)) ∨ (i = .int .i64 2 ∧ Aside0 (l1.all byteB = true) ∧ Aside0 (l2.all byteB = true))) (fun i => 2 - (intOf i).toNat)
  case atStart => exact Or.inl rfl
  case round =>
    rcases hrel with rfl | ⟨rfl, H1⟩ | ⟨rfl, H1, H2⟩
    · go_wp2
      go_loop [37] (fun i => ∃ k : Nat, k ≤ 4 ∧ i = .int .i64 k ∧ Aside0 (bytesB l1 k = true)) (fun i => 4 - (intOf i).toNat)
      case atStart => exact ⟨0, by omega, rfl, ⟨rfl⟩⟩
      case round =>
        obtain ⟨k, hk, rfl, HK⟩ := hrel
        by_cases hlt : k < 4
        · have hx := HCC1.out k (by rw [HN.out]; exact hlt)
          obtain ⟨x, hx0⟩ : ∃ x, rd l1 (k : Int) = x := ⟨_, rfl⟩
          rw [hx0] at hx
          have HX := Aside0.mk hx0
          have hcall := byte_any x
          obtain ⟨y, hy⟩ : ∃ y, byteB x = y := ⟨_, rfl⟩
          rw [hy] at hcall
          have HY := Aside0.mk hy
          have HQ := Aside0.mk hcall
          clear hx0 hy hcall
          cases y
          · have ev : okB pc l1 l2 h = false := by
              unfold okB
              rw [bytesB_no (l := l1) (k := k) (by rw [HN.out]; exact hlt) (by rw [HX.out]; exact HY.out)]
              simp
            have hR := Aside0.mk (HR.out.symm.trans ev)
            clear ev
            go_wp2_with (go_at_call 69; refine (HQ.out _).mono ?_; rintro e w' ⟨rfl, rfl⟩)
            go_ret
            exact ⟨by rw [hR.out]; rfl, HBB.out⟩
          · go_wp2_with (go_at_call 69; refine (HQ.out _).mono ?_; rintro e w' ⟨rfl, rfl⟩)
            go_round
            case rel => exact ⟨k + 1, by omega, by go_num, ⟨by rw [bytesB_step (by rw [HN.out]; exact hlt), HK.out, HX.out, HY.out]; rfl⟩⟩
            case measure => simp [intOf]; omega
        · obtain rfl : k = 4 := by omega
          have hall := HK.out
          rw [bytesB_end l1 4 (by rw [HN.out]; omega)] at hall
          have HALL := Aside0.mk hall
          clear hall
          go_wp2
          go_round
          case rel => exact Or.inr (Or.inl ⟨rfl, HALL⟩)
          case measure => decide
    · go_wp2
      go_loop [37] (fun i => ∃ k : Nat, k ≤ 8 ∧ i = .int .i64 k ∧ Aside0 (bytesB l2 k = true)) (fun i => 8 - (intOf i).toNat)
      case atStart => exact ⟨0, by omega, rfl, ⟨rfl⟩⟩
      case round =>
        obtain ⟨k, hk, rfl, HK⟩ := hrel
        by_cases hlt : k < 8
        · have hx := HCC2.out k (by rw [HN2.out]; exact hlt)
          obtain ⟨x, hx0⟩ : ∃ x, rd l2 (k : Int) = x := ⟨_, rfl⟩
          rw [hx0] at hx
          have HX := Aside0.mk hx0
          have hcall := byte_any x
          obtain ⟨y, hy⟩ : ∃ y, byteB x = y := ⟨_, rfl⟩
          rw [hy] at hcall
          have HY := Aside0.mk hy
          have HQ := Aside0.mk hcall
          clear hx0 hy hcall
          cases y
          · have ev : okB pc l1 l2 h = false := by
              unfold okB
              rw [bytesB_no (l := l2) (k := k) (by rw [HN2.out]; exact hlt) (by rw [HX.out]; exact HY.out)]
              simp
            have hR := Aside0.mk (HR.out.symm.trans ev)
            clear ev
            go_wp2_with (go_at_call 69; refine (HQ.out _).mono ?_; rintro e w' ⟨rfl, rfl⟩)
            go_ret
            exact ⟨by rw [hR.out]; rfl, HBB.out⟩
          · go_wp2_with (go_at_call 69; refine (HQ.out _).mono ?_; rintro e w' ⟨rfl, rfl⟩)
            go_round
            case rel => exact ⟨k + 1, by omega, by go_num, ⟨by rw [bytesB_step (by rw [HN2.out]; exact hlt), HK.out, HX.out, HY.out]; rfl⟩⟩
            case measure => simp [intOf]; omega
        · obtain rfl : k = 8 := by omega
          have hall := HK.out
          rw [bytesB_end l2 8 (by rw [HN2.out]; omega)] at hall
          have HALL := Aside0.mk hall
          clear hall
          go_wp2
          go_round
          case rel => exact Or.inr (Or.inr ⟨rfl, H1, HALL⟩)
          case measure => decide
    · have ev : okB pc l1 l2 h = (h == 0 || (h == 1 || h == 2)) := by
        unfold okB
        rw [H1.out, H2.out, decide_eq_true HN.out, decide_eq_true HN2.out, decide_eq_true (And.intro p0 p1)]
        rfl
      have hR := Aside0.mk (HR.out.symm.trans ev)
      have c3 := HF.out
      clear ev
      go_wp2
      all_goals go_ret
      all_goals rw [hR.out]
      all_goals refine ⟨?_, HBB.out⟩
      all_goals show Ending.returned (Value.bool _) = Ending.returned (Value.bool _)
      all_goals exact ret_bool (by first | rfl | simp [*] | exact Bool.or_assoc _ _ _)
set_option maxRecDepth 100000 in
set_option maxHeartbeats 4000000 in
theorem ok_any (pc h : Int) (A1 : Option Addr) (c1 : Nat) (l1 : List Int) (A2 : Option Addr) (c2 : Nat) (l2 : List Int) (w : World) (hr1 : Kd.C (Kd.int .i64) w A1 l1.length l1) (hr2 : Kd.C (Kd.int .i64) w A2 l2.length l2) :
    Calls Try.prog 28 #[.agg #[.int .i64 pc, .slice A1 l1.length c1, .slice A2 l2.length c2, .int .i64 h]] w fun e w' => e = .returned (.bool (okB pc l1 l2 h)) ∧ Below w.heap.size w w' := by
  by_cases hp : 0 ≤ pc ∧ pc ≤ 24
  · by_cases n1 : l1.length = 4
    · by_cases n2 : l2.length = 8
      · obtain ⟨ad1, rfl, _⟩ := read_cells hr1 (by omega)
        obtain ⟨ad2, rfl, _⟩ := read_cells hr2 (by omega)
        have k := ok_core ad1 ad2 c1 c2 pc h l1 l2 w hr1 hr2 n1 n2 hp.1 hp.2
        rw [n1, n2]
        exact k
      · have e : okB pc l1 l2 h = false := by
          unfold okB
          rw [decide_eq_false n2]
          simp
        rw [e, n1]
        have t2 : ((l2.length : Int) != 8) = true := by rw [bne_iff_ne]; omega
        generalize l2.length = m at *
        obtain ⟨p0, p1⟩ := hp
        clear hr1 hr2 n1 n2 e
        go_enter Try.func28, Try.ntmps28
        go_wp2
        all_goals go_ret
        all_goals exact ⟨rfl, (Below.refl _ _).alloc (Nat.le_refl _) _⟩
    · have e : okB pc l1 l2 h = false := by
        unfold okB
        rw [decide_eq_false n1]
        simp
      rw [e]
      have t2 : ((l1.length : Int) != 4) = true := by rw [bne_iff_ne]; omega
      generalize l1.length = m at *
      generalize l2.length = m2 at *
      obtain ⟨p0, p1⟩ := hp
      clear hr1 hr2 n1 e
      go_enter Try.func28, Try.ntmps28
      go_wp2
      all_goals go_ret
      all_goals exact ⟨rfl, (Below.refl _ _).alloc (Nat.le_refl _) _⟩
  · have e : okB pc l1 l2 h = false := by
      unfold okB
      rw [decide_eq_false hp]
      simp
    rw [e]
    generalize l1.length = m at *
    generalize l2.length = m2 at *
    clear hr1 hr2 e
    by_cases hq : pc < 0
    · go_enter Try.func28, Try.ntmps28
      go_wp2
      all_goals go_ret
      all_goals exact ⟨rfl, (Below.refl _ _).alloc (Nat.le_refl _) _⟩
    · have hq2 : 24 < pc := by omega
      go_enter Try.func28, Try.ntmps28
      go_wp2
      all_goals go_ret
      all_goals exact ⟨rfl, (Below.refl _ _).alloc (Nat.le_refl _) _⟩
end Go.Proofs.YtcnipdbommmkmaaVmOk
