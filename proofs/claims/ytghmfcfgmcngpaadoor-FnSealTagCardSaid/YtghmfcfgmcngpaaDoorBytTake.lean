/- What BytTake answers: a number out of bytes, and whether there was one. Conditions: the bytes can be read; the variable errors.errorType holds the handle of the type error. -/
import Derived.Test.YtghmfcfgmcngpaaDoorBytRead
import Derived.Test.YtghmfcfgmcngpaaDoorDoorAs
set_option linter.unusedVariables false
set_option linter.unusedSimpArgs false
namespace Go.Proofs.YtghmfcfgmcngpaaDoorBytTake
open Go.RowKit Go.Proofs.YtghmfcfgmcngpaaDoorW.PrintWords Go.Proofs.YtghmfcfgmcngpaaDoorSealTag Go.Proofs.YtghmfcfgmcngpaaDoorBytRead Go.Proofs.YtghmfcfgmcngpaaDoorDoorAs

/-- The variable errors.errorType is laid. -/
def Glob (w : World) : Prop := w.cell? ⟨0, 0, none⟩ = some (.iface 84 (.agg #[.pointer (some ⟨1, 51, none⟩)]))
theorem Glob.lt {w : World} (h : Glob w) : 0 < w.heap.size := by
  rcases Nat.eq_zero_or_pos w.heap.size with h0 | h1
  · simp [Glob, World.cell?, h0] at h
  · exact h1
theorem Glob.below {w W : World} {n : Nat} (h : Glob w) (hb : Below n w W) (hn : 0 < n) : Glob W := (hb.cell (p := ⟨0, 0, none⟩) hn).trans h
theorem Glob.at {w W : World} (h : Aside0 (Glob w)) (hb : Below w.heap.size w W) : Aside0 (Glob W) := ⟨h.out.below hb h.out.lt⟩

theorem tuple_eq {a b : Int} {x y : Bool} (h : a = b) (h2 : x = y) : Ending.returned (.tuple #[.int .i64 a, .bool x]) = .returned (.tuple #[.int .i64 b, .bool y]) := by rw [h, h2]

set_option maxHeartbeats 2000000 in
theorem take_bad (A : Option Addr) (n c : Nat) (a s k : Int) (w : World) (hg : Glob w) (hread : ∀ W : World, Calls Tryd.prog 38 #[.slice A n c, .int .i64 a, .int .i64 s] W fun e w' => e = .returned (.tuple #[.int .i64 0, .iface 55 (.agg #[.int .i64 k])]) ∧ W = w') :
    Calls Tryd.prog 16 #[.slice A n c, .int .i64 a, .int .i64 s] w fun e w' => e = .returned (.tuple #[.int .i64 0, .bool false]) ∧ Below w.heap.size w w' := by
  have HQ := Aside0.mk hread
  have hlt := hg.lt
  have HAS := Aside0.mk (as_hit k ⟨w.heap.size, 0, none⟩ (.int .i64 0) (w.alloc (.cells #[.int .i64 0] 55)) (hg.below ((Below.refl _ _).alloc (Nat.le_refl _) _) hlt) (by simp) (by simp))
  clear hread hg hlt
  go_enter Tryd.func16, Tryd.ntmps16
  go_wp2_with (first | (go_at_call 38; refine (HQ.out _).mono ?_; rintro e w' ⟨rfl, rfl⟩) | (go_at_call 39; refine HAS.out.mono ?_; rintro e w' ⟨rfl, rfl⟩))
  go_ret2
  refine ⟨rfl, ?_⟩
  exact (((((Below.refl _ _).alloc (Nat.le_refl _) _).alloc (by simp) _).alloc (by simp; omega) _).alloc (by simp; omega) _).alloc (by simp; omega) _
set_option maxHeartbeats 2000000 in
theorem take_good (A : Option Addr) (n c : Nat) (a s r : Int) (w : World) (hread : ∀ W : World, W = w → Calls Tryd.prog 38 #[.slice A n c, .int .i64 a, .int .i64 s] W fun e w' => e = .returned (.tuple #[.int .i64 r, .nilIface]) ∧ W = w') :
    Calls Tryd.prog 16 #[.slice A n c, .int .i64 a, .int .i64 s] w fun e w' => e = .returned (.tuple #[.int .i64 r, .bool true]) ∧ Below w.heap.size w w' := by
  have HQ := Aside0.mk (hread w rfl)
  clear hread
  go_enter Tryd.func16, Tryd.ntmps16
  go_wp2_with (first | (go_at_call 38; refine HQ.out.mono ?_; rintro e w' ⟨rfl, rfl⟩) | (go_at_call 39; refine (as_nil _ _).mono ?_; rintro e w' ⟨rfl, rfl⟩))
  go_ret2
  exact ⟨rfl, (Below.refl _ _).alloc (Nat.le_refl _) _⟩

def takeR (l : List Int) (a s : Int) : Int × Bool := if (1 ≤ s ∧ s ≤ 4) ∧ 0 ≤ a ∧ a ≤ (l.length : Int) - s then (takeV ((l.take (a.toNat + s.toNat)).drop a.toNat), true) else (0, false)
theorem take_told (A : Option Addr) (c : Nat) (l : List Int) (a s : Int) (w : World) (hA : Kd.C (Kd.int .u8) w A l.length l) (hc : l.length ≤ c) (r1 : Int) (r2 : Bool) (h : (if isBytes l = true then some (takeR l a s) else none) = some (r1, r2)) (HG : Aside0 (Glob w)) :
    Calls Tryd.prog 16 #[.slice A l.length c, .int .i64 a, .int .i64 s] w fun e w' => e = .returned (.tuple #[.int .i64 r1, .bool r2]) ∧ Below w.heap.size w w' := by
  by_cases hb : isBytes l = true
  · rw [if_pos hb] at h
    have h' := Option.some.inj h
    unfold takeR at h'
    by_cases hs : 1 ≤ s ∧ s ≤ 4
    · by_cases ha : 0 ≤ a ∧ a ≤ (l.length : Int) - s
      · rw [if_pos ⟨hs, ha⟩] at h'
        injection h' with e1 e2
        subst e1 e2
        obtain ⟨m, rfl⟩ := Int.eq_ofNat_of_zero_le ha.1
        obtain ⟨t, rfl⟩ := Int.eq_ofNat_of_zero_le (show 0 ≤ s by omega)
        rw [Int.toNat_natCast, Int.toNat_natCast]
        exact take_good A l.length c m t _ w (fun W e => by subst e; exact read_good A c l m t W hA hc hb (by omega) (by omega) (by omega))
      · rw [if_neg (fun hh => ha hh.2)] at h'
        injection h' with e1 e2
        subst e1 e2
        exact take_bad A l.length c a s 2 w HG.out (fun W => read_place A l.length c a s W hs.1 hs.2 (by have := hA.2.1; omega) (by omega))
    · rw [if_neg (fun hh => hs hh.1)] at h'
      injection h' with e1 e2
      subst e1 e2
      exact take_bad A l.length c a s 1 w HG.out (fun W => read_size A l.length c a s W (by omega))
  · rw [if_neg hb] at h
    exact absurd h (by simp)
end Go.Proofs.YtghmfcfgmcngpaaDoorBytTake
