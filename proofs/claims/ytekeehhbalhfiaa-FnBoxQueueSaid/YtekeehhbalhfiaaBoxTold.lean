/- BoxPut and BoxTake in the print's own contract form. Conditions: no more than memory can hold. -/
import Derived.Test.YtekeehhbalhfiaaBoxTak
set_option linter.unusedVariables false
set_option linter.unusedSimpArgs false
namespace Go.Proofs.YtekeehhbalhfiaaBoxTold
open Go.RowKit Go.Proofs.YtekeehhbalhfiaaW.PrintWords Go.Proofs.YtekeehhbalhfiaaBoxDo Go.Proofs.YtekeehhbalhfiaaBoxTak Go.Proofs.Ytekeehhbalhfiaa.PBoxBase

def putZ (dep : Int) (L : List (List Int)) (m : List Int) : Option (Int × List (List Int) × Bool) :=
  if L.length ≤ 1048576 ∧ m.length ≤ 9223372036854775807 then (if boxOkB dep L = true ∧ m.length ≤ 8 then (if (L.length : Int) ≥ dep then some (dep, L, false) else some (dep, L ++ [m], true)) else some (0, [], false)) else none
def takeZ (dep : Int) (L : List (List Int)) : Option (Int × List (List Int) × List Int × Bool) :=
  if L.length ≤ 1048576 then (if boxOkB dep L = true then (match L with | [] => some (dep, [], [], false) | x :: l => some (dep, l, x, true)) else some (0, [], [], false)) else none

theorem put_told (dep : Int) (A : Option Addr) (c : Nat) (L : List (List Int)) (A1 : Option Addr) (c1 : Nat) (m : List Int) (r1 : Int) (r2 : List (List Int)) (r3 : Bool) (w : World) (hA : Kd.C (Kd.slice 5 (Kd.int .u8)) w A L.length L) (hc : L.length ≤ c) (hM : Kd.C (Kd.int .u8) w A1 m.length m) (hc1 : m.length ≤ c1) (h : putZ dep L m = some (r1, r2, r3)) :
    Calls Try.prog 11 #[.agg #[.int .i64 dep, .slice A L.length c], .slice A1 m.length c1] w fun e w' => ∃ v1_ : Value, e = .returned (.tuple #[.agg #[.int .i64 r1, v1_], .bool r3]) ∧ Kd.S (Kd.slice 5 (Kd.int .u8)) 22 w' w.heap.size (fun _ => True) v1_ r2 ∧ Below w.heap.size w w' := by
  unfold putZ at h
  by_cases hs : L.length ≤ 1048576 ∧ m.length ≤ 9223372036854775807
  · rw [if_pos hs] at h
    by_cases ho : boxOkB dep L = true ∧ m.length ≤ 8
    · rw [if_pos ho] at h
      by_cases hf : (L.length : Int) ≥ dep
      · rw [if_pos hf] at h
        cases h
        exact put_full _ A c L A1 c1 m w hA hc ho.1 ho.2 hf
      · rw [if_neg hf] at h
        cases h
        exact put_good _ A c L A1 c1 m w hA hc hM hc1 ho.1 ho.2 hf
    · rw [if_neg ho] at h
      cases h
      refine (put_bad dep A c L A1 c1 m w hA hc hs.1 hs.2 ?_).mono ?_
      · by_cases hb : boxOkB dep L = true
        · exact .inr ⟨hb, by have : ¬ m.length ≤ 8 := fun h8 => ho ⟨hb, h8⟩; omega⟩
        · exact .inl (by simpa using hb)
      · rintro e w' ⟨rfl, hb⟩
        exact ⟨_, rfl, Kd.S_nil _ _ _ _ _, hb⟩
  · rw [if_neg hs] at h
    cases h

theorem take_told (dep : Int) (A : Option Addr) (c : Nat) (L : List (List Int)) (r1 : Int) (r2 : List (List Int)) (r3 : List Int) (r4 : Bool) (w : World) (hA : Kd.C (Kd.slice 5 (Kd.int .u8)) w A L.length L) (hc : L.length ≤ c) (h : takeZ dep L = some (r1, r2, r3, r4)) :
    Calls Try.prog 12 #[.agg #[.int .i64 dep, .slice A L.length c]] w fun e w' => ∃ v1_ v2_ : Value, e = .returned (.tuple #[.agg #[.int .i64 r1, v1_], v2_, .bool r4]) ∧ Kd.S (Kd.slice 5 (Kd.int .u8)) 22 w' w.heap.size (fun k_ => some k_ ≠ (v2_ : Value).ownBlock) v1_ r2 ∧ Kd.R (Kd.int .u8) 5 w' w.heap.size (fun _ => True) v2_ r3 ∧ Below w.heap.size w w' := by
  unfold takeZ at h
  by_cases hs : L.length ≤ 1048576
  · rw [if_pos hs] at h
    by_cases ho : boxOkB dep L = true
    · rw [if_pos ho] at h
      match L, h with
      | [], h =>
        cases h
        refine (take_empty _ A c w hA ho).mono ?_
        rintro e w' ⟨v1, rfl, hS, hb⟩
        exact ⟨v1, _, rfl, Kd.S_mono hS (fun k hk => by simp [Value.ownBlock]), Kd.R_nil _ _ _ _ _, hb⟩
      | x :: l, h =>
        cases h
        exact take_good _ A c _ _ w hA hc ho
    · rw [if_neg ho] at h
      cases h
      refine (take_bad dep A c L w hA hc hs (by simpa using ho)).mono ?_
      rintro e w' ⟨rfl, hb⟩
      exact ⟨_, _, rfl, Kd.S_nil _ _ _ _ _, Kd.R_nil _ _ _ _ _, hb⟩
  · rw [if_neg hs] at h
    cases h
end Go.Proofs.YtekeehhbalhfiaaBoxTold
