/- What FrmSpill answers: the message of a body of nine bytes. Conditions: bytes. -/
import Derived.Test.YtlmlbodbloahlaaCopy
import Derived.RegionTactic
import Derived.Deep.RegionWith
import Derived.Deep.QuietTactic
import Derived.BigQuiet
import Derived.IntWalk
set_option linter.unusedVariables false
set_option linter.unusedSimpArgs false
namespace Go.Proofs.YtlmlbodbloahlaaFrmSpill
open Go.RowKit Go.Proofs.YtlmlbodbloahlaaW.PrintWords Go.Proofs.YtlmlbodbloahlaaW.PrintMore Go.Proofs.YtlmlbodbloahlaaCopy
attribute [local go_sem] max2_int

def start_ (n : Int) : Nat := (if n = 0 then 1 else n.toNat)
def zeros (l : List Int) (s : Nat) : Bool := (l.drop s).all (fun x => x == 0)
def spillV (l : List Int) : List Int × Bool × Bool :=
  if l.length = 9 ∧ rd l 0 ≤ 9 ∧ zeros l (start_ (rd l 0)) = true then ((l.take (start_ (rd l 0))).drop 1, rd l 0 != 0, true) else ([], false, false)
def Gives (w : World) (r : List Int × Bool × Bool) (e : Ending) (w' : World) : Prop :=
  ∃ v, e = .returned (.tuple #[v, .bool r.2.1, .bool r.2.2]) ∧ Kd.R (Kd.int .u8) 5 w' w.heap.size (fun _ => True) v r.1 ∧ Below w.heap.size w w'

theorem no9 (A : Option Addr) (c : Nat) (l : List Int) (w : World) (hr : Kd.C (Kd.int .u8) w A l.length l) (hc : l.length ≤ c) (h : l.length ≠ 9) :
    Calls Try.prog 17 #[.slice A l.length c] w (Gives w (spillV l)) := by
  rw [show spillV l = ([], false, false) by simp [spillV, h]]
  have t1 : ((l.length : Int) != 9) = true := by rw [bne_iff_ne]; omega
  clear hr h
  go_enter Try.func17, Try.ntmps17
  go_wp2
  go_ret3
  exact ⟨_, rfl, Kd.R_nil _ _ _ _ _, Below.refl _ _⟩

theorem big0 (ad : Addr) (c : Nat) (l : List Int) (w : World) (hc0 : w.cell? ad = some (.int .u8 (rd l 0))) (h9 : l.length = 9) (h : 9 < rd l 0) :
    Calls Try.prog 17 #[.slice (some ad) 9 c] w (Gives w (spillV l)) := by
  rw [show spillV l = ([], false, false) by simp [spillV]; omega]
  clear h9
  go_enter Try.func17, Try.ntmps17
  go_wp2
  go_ret3
  exact ⟨_, rfl, Kd.R_nil _ _ _ _ _, Below.refl _ _⟩

/-- What is asked at each place from s on. -/
theorem zeros_step {l : List Int} {s k : Nat} (h9 : l.length = 9) (hk : s + k < 9) : ((l.drop s).take (k + 1)).all (fun x => x == 0) = (((l.drop s).take k).all (fun x => x == 0) && (rd l ((s + k : Nat) : Int) == 0)) := by
  rw [List.take_succ_eq_append_getElem (by rw [List.length_drop]; omega), List.all_append]
  congr 1
  have e : rd l ((s + k : Nat) : Int) = l[s + k] := by
    unfold rd
    rw [Int.toNat_natCast, List.getD_eq_getElem?_getD, List.getElem?_eq_getElem (by omega)]
    rfl
  rw [e]
  simp
theorem zeros_end {l : List Int} {s : Nat} (h9 : l.length = 9) : ((l.drop s).take (9 - s)).all (fun x => x == 0) = zeros l s := by
  unfold zeros
  rw [List.take_of_length_le (by rw [List.length_drop]; omega)]
theorem zeros_no {l : List Int} {s k : Nat} (h9 : l.length = 9) (hk : s + k < 9) (h : (rd l ((s + k : Nat) : Int) == 0) = false) : zeros l s = false := by
  rw [← zeros_end h9]
  have e : (l.drop s).take (9 - s) = ((l.drop s).take (k + 1)) ++ (((l.drop s).take (9 - s)).drop (k + 1)) := by
    have e0 := (List.take_append_drop (k + 1) ((l.drop s).take (9 - s))).symm
    rw [List.take_take, Nat.min_eq_left (by omega)] at e0
    exact e0
  rw [e, List.all_append, zeros_step h9 hk, h]
  simp

set_option maxHeartbeats 4000000 in
theorem core (ad : Addr) (c n : Nat) (l : List Int) (w : World) (hcells : ∀ j, j < 9 → w.cell? (ad.add j) = some (.int .u8 (rd l j))) (h9 : l.length = 9) (hc : 9 ≤ c) (hn : rd l 0 = (n : Int)) (hn9 : n ≤ 9) (hn1 : 1 ≤ n) (hcn : n < c)
    (hcopy : ∀ W : World, Below w.heap.size w W → Calls Try.prog 37 #[.slice (some (ad.add 1)) (n - 1) (c - 1)] W fun e w' => ∃ v, e = .returned v ∧ Kd.R (Kd.int .u8) 5 w' W.heap.size (fun _ => True) v ((l.take n).drop 1) ∧ Below W.heap.size W w') :
    Calls Try.prog 17 #[.slice (some ad) 9 c] w (Gives w (spillV l)) := by
  have c0 : w.cell? ad = some (.int .u8 (n : Int)) := by
    have := hcells 0 (by omega)
    rw [show ((0 : Nat) : Int) = 0 from rfl, hn] at this
    exact this
  have hs : start_ (rd l 0) = n := by
    unfold start_
    rw [hn, if_neg (by omega)]
    omega
  obtain ⟨R, hR⟩ : ∃ R, spillV l = R := ⟨_, rfl⟩
  rw [hR]
  have HR := Aside0.mk hR
  clear hR
  have HC := Aside0.mk hcells
  have HN := Aside0.mk hn
  have H9 := Aside0.mk h9
  have HS := Aside0.mk hs
  have HP := Aside0.mk hcopy
  have tn : ((n : Int) != 0) = true := by rw [bne_iff_ne]; omega
  clear hcells hn h9 hs hcopy
  go_enter Try.func17, Try.ntmps17
  go_wp2
  go_loop [28] (fun i => ∃ k : Nat, k ≤ 9 - n ∧ i = .int .i64 k ∧ Aside0 (((l.drop n).take k).all (fun x => x == 0) = true)) (fun i => 9 - n - (intOf i).toNat)
  case atStart => exact ⟨0, Nat.zero_le _, rfl, ⟨by simp⟩⟩
  case round =>
    obtain ⟨k, hk, rfl, HA⟩ := hrel
    by_cases hlt : k < 9 - n
    · have hx : w.cell? ((ad.add n).add k) = some (.int .u8 (rd l ((n + k : Nat) : Int))) := by
        have e : (ad.add n).add k = ad.add (n + k) := by
          unfold Addr.add
          by_cases hi : n = 0 <;> by_cases hj : k = 0 <;> simp [hi, hj, Nat.add_assoc]
        rw [e]
        exact HC.out (n + k) (by omega)
      obtain ⟨x, hx0⟩ : ∃ x, rd l ((n + k : Nat) : Int) = x := ⟨_, rfl⟩
      rw [hx0] at hx
      have HX := Aside0.mk hx0
      clear hx0
      by_cases hz : x = 0
      · subst hz
        go_wp2
        go_round
        case rel => exact ⟨k + 1, by omega, by go_num, ⟨by rw [zeros_step H9.out (by omega), HA.out, HX.out]; rfl⟩⟩
        case measure => simp [intOf]; omega
      · have tz : (x != 0) = true := by rw [bne_iff_ne]; exact hz
        have ev : spillV l = ([], false, false) := by
          unfold spillV
          rw [if_neg]
          rw [HS.out, zeros_no H9.out (by omega : n + k < 9) (by rw [HX.out]; simpa using hz)]
          simp
        have hR := Aside0.mk (HR.out.symm.trans ev)
        clear ev
        go_wp2
        go_ret3
        rw [hR.out]
        exact ⟨_, rfl, Kd.R_nil _ _ _ _ _, Below.refl _ _⟩
    · obtain rfl : k = 9 - n := by omega
      have hz : zeros l n = true := by
        rw [← zeros_end H9.out]
        exact HA.out
      have ev : spillV l = ((l.take n).drop 1, true, true) := by
        unfold spillV
        rw [if_pos ⟨H9.out, by rw [HN.out]; omega, by rw [HS.out]; exact hz⟩, HS.out, HN.out]
        rw [tn]
      have hR := Aside0.mk (HR.out.symm.trans ev)
      have HB := Aside0.mk (Below.refl w.heap.size w)
      have e1 : IntKind.i64.wrap (1 + ((n : Int) - 1)) = (n : Int) := by
        rw [show 1 + ((n : Int) - 1) = (n : Int) by omega]
        exact IntWalk.i64_in _ (by omega)
      have q1 : (1 : Int) ≤ (n : Int) := by omega
      have q2 : (n : Int) ≤ (c : Int) := by omega
      have q3 : ¬ c = 1 := by omega
      clear ev hz HA
      go_wp2
      go_region_with (go_at_call 37; refine (HP.out _ (by repeat (with_reducible first | exact HB.out | apply below_drew | apply pw_below_drewN))).mono ?_; rintro e w1 ⟨v, rfl, ho, hb⟩; have c1 := pw_cell_below hb c0)
      all_goals go_wp2
      all_goals go_ret3
      all_goals rw [hR.out]
      all_goals exact ⟨_, rfl, ho, below_step (below_drew (Below.refl _ _)) hb⟩
set_option maxHeartbeats 4000000 in
theorem core0 (ad : Addr) (c : Nat) (l : List Int) (w : World) (hcells : ∀ j, j < 9 → w.cell? (ad.add j) = some (.int .u8 (rd l j))) (h9 : l.length = 9) (hc : 9 ≤ c) (hn : rd l 0 = 0)
    (hcopy : ∀ W : World, Below w.heap.size w W → Calls Try.prog 37 #[.slice (some (ad.add 1)) 0 (c - 1)] W fun e w' => ∃ v, e = .returned v ∧ Kd.R (Kd.int .u8) 5 w' W.heap.size (fun _ => True) v ((l.take 1).drop 1) ∧ Below W.heap.size W w') :
    Calls Try.prog 17 #[.slice (some ad) 9 c] w (Gives w (spillV l)) := by
  have c0 : w.cell? ad = some (.int .u8 0) := by
    have := hcells 0 (by omega)
    rw [show ((0 : Nat) : Int) = 0 from rfl, hn] at this
    exact this
  have hs : start_ (rd l 0) = 1 := by
    unfold start_
    rw [hn, if_pos rfl]
  obtain ⟨R, hR⟩ : ∃ R, spillV l = R := ⟨_, rfl⟩
  rw [hR]
  have HR := Aside0.mk hR
  clear hR
  have HC := Aside0.mk hcells
  have HN := Aside0.mk hn
  have H9 := Aside0.mk h9
  have HS := Aside0.mk hs
  have HP := Aside0.mk hcopy
  have tn : ((0 : Int) != 0) = false := rfl
  have q3 : ¬ c = 1 := by omega
  have q4 : (1 : Int) ≤ (c : Int) := by omega
  have q5 : 1 ≤ c := by omega
  have q6 : 0 < c := by omega
  have q7 : ¬ c = 0 := by omega
  clear hcells hn h9 hs hcopy
  go_enter Try.func17, Try.ntmps17
  go_wp2
  go_loop [28] (fun i => ∃ k : Nat, k ≤ 8 ∧ i = .int .i64 k ∧ Aside0 (((l.drop 1).take k).all (fun x => x == 0) = true)) (fun i => 8 - (intOf i).toNat)
  case atStart => exact ⟨0, Nat.zero_le _, rfl, ⟨by simp⟩⟩
  case round =>
    obtain ⟨k, hk, rfl, HA⟩ := hrel
    by_cases hlt : k < 8
    · have hx : w.cell? ⟨ad.block, ad.off + 1 + k, none⟩ = some (.int .u8 (rd l ((1 + k : Nat) : Int))) := by
        have e : (⟨ad.block, ad.off + 1 + k, none⟩ : Addr) = ad.add (1 + k) := by
          unfold Addr.add
          rw [if_neg (by omega), Nat.add_assoc]
        rw [e]
        exact HC.out (1 + k) (by omega)
      obtain ⟨x, hx0⟩ : ∃ x, rd l ((1 + k : Nat) : Int) = x := ⟨_, rfl⟩
      rw [hx0] at hx
      have HX := Aside0.mk hx0
      clear hx0
      by_cases hz : x = 0
      · subst hz
        go_wp2
        go_round
        case rel => exact ⟨k + 1, by omega, by go_num, ⟨by rw [zeros_step H9.out (by omega), HA.out, HX.out]; rfl⟩⟩
        case measure => simp [intOf]; omega
      · have tz : (x != 0) = true := by rw [bne_iff_ne]; exact hz
        have ev : spillV l = ([], false, false) := by
          unfold spillV
          rw [if_neg]
          rw [HS.out, zeros_no H9.out (by omega : 1 + k < 9) (by rw [HX.out]; simpa using hz)]
          simp
        have hR := Aside0.mk (HR.out.symm.trans ev)
        clear ev
        go_wp2
        go_ret3
        rw [hR.out]
        exact ⟨_, rfl, Kd.R_nil _ _ _ _ _, Below.refl _ _⟩
    · obtain rfl : k = 8 := by omega
      have hz : zeros l 1 = true := by
        rw [← zeros_end H9.out]
        exact HA.out
      have ev : spillV l = ((l.take 1).drop 1, false, true) := by
        unfold spillV
        rw [if_pos ⟨H9.out, by rw [HN.out]; omega, by rw [HS.out]; exact hz⟩, HS.out, HN.out]
        rfl
      have hR := Aside0.mk (HR.out.symm.trans ev)
      have HB := Aside0.mk (Below.refl w.heap.size w)
      clear ev hz HA
      have e1 : IntKind.i64.wrap 1 = 1 := IntWalk.i64_in _ (by omega)
      go_wp2
      go_region_with (go_at_call 37; refine (HP.out _ (by repeat (with_reducible first | exact HB.out | apply below_drew | apply pw_below_drewN))).mono ?_; rintro e w1 ⟨v, rfl, ho, hb⟩; have c1 := pw_cell_below hb c0)
      all_goals go_wp2
      all_goals go_ret3
      all_goals rw [hR.out]
      all_goals exact ⟨_, rfl, ho, below_step (below_drew (Below.refl _ _)) hb⟩
set_option maxHeartbeats 4000000 in
theorem coreE (ad : Addr) (l : List Int) (w : World) (hcells : ∀ j, j < 9 → w.cell? (ad.add j) = some (.int .u8 (rd l j))) (h9 : l.length = 9) (hn : rd l 0 = 9)
    (hcopy : ∀ W : World, Below w.heap.size w W → Calls Try.prog 37 #[.slice (some (ad.add 1)) 8 8] W fun e w' => ∃ v, e = .returned v ∧ Kd.R (Kd.int .u8) 5 w' W.heap.size (fun _ => True) v ((l.take 9).drop 1) ∧ Below W.heap.size W w') :
    Calls Try.prog 17 #[.slice (some ad) 9 9] w (Gives w (spillV l)) := by
  have c0 : w.cell? ad = some (.int .u8 9) := by
    have := hcells 0 (by omega)
    rw [show ((0 : Nat) : Int) = 0 from rfl, hn] at this
    exact this
  have hs : start_ (rd l 0) = 9 := by
    unfold start_
    rw [hn]
    rfl
  obtain ⟨R, hR⟩ : ∃ R, spillV l = R := ⟨_, rfl⟩
  rw [hR]
  have HR := Aside0.mk hR
  clear hR
  have HC := Aside0.mk hcells
  have HN := Aside0.mk hn
  have H9 := Aside0.mk h9
  have HS := Aside0.mk hs
  have HP := Aside0.mk hcopy
  have tn : ((9 : Int) != 0) = true := rfl
  clear hcells hn h9 hs hcopy
  go_enter Try.func17, Try.ntmps17
  go_wp2
  refine wp_loop_rounds 1 ?_
  rw [rounds_succ]
  have hz : zeros l 9 = true := by
    unfold zeros
    rw [List.drop_eq_nil_of_le (by rw [H9.out]; omega)]
    rfl
  have ev : spillV l = ((l.take 9).drop 1, true, true) := by
    unfold spillV
    rw [if_pos ⟨H9.out, by rw [HN.out]; omega, by rw [HS.out]; exact hz⟩, HS.out, HN.out]
    rfl
  have hR := Aside0.mk (HR.out.symm.trans ev)
  have HB := Aside0.mk (Below.refl w.heap.size w)
  clear ev hz
  go_wp2
  go_region_with (go_at_call 37; refine (HP.out _ (by repeat (with_reducible first | exact HB.out | apply below_drew | apply pw_below_drewN))).mono ?_; rintro e w1 ⟨v, rfl, ho, hb⟩; have c1 := pw_cell_below hb c0)
  all_goals go_wp2
  all_goals go_ret3
  all_goals rw [hR.out]
  all_goals exact ⟨_, rfl, ho, below_step (below_drew (Below.refl _ _)) hb⟩

theorem spill_any (A : Option Addr) (c : Nat) (l : List Int) (w : World) (hr : Kd.C (Kd.int .u8) w A l.length l) (hc : l.length ≤ c) (hb : 0 ≤ rd l 0) :
    Calls Try.prog 17 #[.slice A l.length c] w (Gives w (spillV l)) := by
  by_cases h9 : l.length = 9
  · obtain ⟨ad, rfl, hcs⟩ := read_cells hr (by omega)
    have hcells : ∀ j, j < 9 → w.cell? (ad.add j) = some (.int .u8 (rd l j)) := by
      intro j hj
      refine hcs j _ ?_
      unfold rd
      rw [Int.toNat_natCast]
      simp [nums, List.getElem?_eq_getElem (show j < l.length by omega)]
    have hsub : ∀ (s : Nat), 1 ≤ s → s ≤ 9 → s ≤ c → ∀ W : World, Below w.heap.size w W → Calls Try.prog 37 #[.slice (some (ad.add 1)) (s - 1) (c - 1)] W fun e w' => ∃ v, e = .returned v ∧ Kd.R (Kd.int .u8) 5 w' W.heap.size (fun _ => True) v ((l.take s).drop 1) ∧ Below W.heap.size W w' := by
      intro s h1 h2 h3 W hW
      have hlen : ((l.take s).drop 1).length = s - 1 := by simp; omega
      have hC : Kd.C (Kd.int .u8) W (some (ad.add 1)) ((l.take s).drop 1).length ((l.take s).drop 1) := by
        refine ⟨rfl, by omega, fun _ => ⟨ad.add 1, rfl, fun j p hp => ⟨[.int .u8 p], rfl, rfl, fun i u hu => ?_⟩⟩⟩
        have hj : j < s - 1 := by
          have := (List.getElem?_eq_some_iff.1 hp).1
          omega
        have hi : i = 0 := by
          have := (List.getElem?_eq_some_iff.1 hu).1
          simp at this
          omega
        subst hi
        have hu' : u = .int .u8 p := by simpa using hu.symm
        subst hu'
        have e : (Kd.int .u8).sz = 1 := rfl
        rw [e, Nat.mul_one, Nat.add_zero]
        have ea : (ad.add 1).add j = ad.add (1 + j) := by
          unfold Addr.add
          by_cases hj : j = 0 <;> simp [hj, Nat.add_assoc]
        rw [ea]
        refine pw_cell_below hW ?_
        rw [hcells (1 + j) (by omega)]
        have hp2 : l[1 + j]? = some p := by
          rw [List.getElem?_drop, List.getElem?_take_of_lt (by omega)] at hp
          exact hp
        unfold rd
        rw [Int.toNat_natCast, List.getD_eq_getElem?_getD, hp2]
        rfl
      have k := copy_any (some (ad.add 1)) (c - 1) _ ((l.take s).drop 1) W hC (by omega) (if_pos (by omega))
      rw [hlen] at k
      exact k
    rw [h9] at hc ⊢
    by_cases h0 : 9 < rd l 0
    · exact big0 ad c l w (hcells 0 (by omega)) h9 h0
    · obtain ⟨n, hn⟩ := Int.eq_ofNat_of_zero_le hb
      by_cases hz : n = 0
      · subst hz
        exact core0 ad c l w hcells h9 hc hn (hsub 1 (by omega) (by omega) (by omega))
      · by_cases hcn : n < c
        · exact core ad c n l w hcells h9 hc hn (by omega) (by omega) hcn (hsub n (by omega) (by omega) (by omega))
        · obtain rfl : n = 9 := by omega
          obtain rfl : c = 9 := by omega
          exact coreE ad l w hcells h9 hn (hsub 9 (by omega) (by omega) (by omega))
  · exact no9 A c l w hr hc h9
end Go.Proofs.YtlmlbodbloahlaaFrmSpill
