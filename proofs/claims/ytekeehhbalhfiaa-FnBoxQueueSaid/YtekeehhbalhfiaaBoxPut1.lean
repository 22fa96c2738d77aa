/- The ring of messages: put lays a slice behind the others, take takes the first one out. Conditions: room; one that waits. -/
import Derived.Test.YtekeehhbalhfiaaProg
import Derived.Test.YtekeehhbalhfiaaWMore
import Derived.Test.YtekeehhbalhfiaaWApart
import Derived.Test.YtekeehhbalhfiaaPl
import Derived.WalkKit
import Derived.RegionTactic
import Derived.Deep.RegionLaw
import Derived.Deep.AppendLies
import Derived.KernelRfl
set_option linter.unusedVariables false
set_option linter.unusedSimpArgs false
namespace Go.Proofs.YtekeehhbalhfiaaBoxPut1
open Go.RowKit Go.Proofs.YtekeehhbalhfiaaW.PrintWords

def nil : Value := .slice none 0 0
/-- A slice's value. -/
abbrev Sl : Type := Option Addr × Nat × Nat
def Sl.v (s : Sl) : Value := .slice s.1 s.2.1 s.2.2
def at_ (us : List Sl) (k : Nat) : Value := ((us[k]?).map Sl.v).getD nil
def ring (us : List Sl) : Array Value := #[at_ us 0, at_ us 1, at_ us 2, at_ us 3, .int .i64 0, .int .i64 us.length]

set_option maxRecDepth 100000 in
set_option maxHeartbeats 4000000 in
theorem put0 (g : Nat) (u0 u1 u2 u3 : Value) (A : Option Addr) (n c : Nat) (w : World) (hg : w.heap[g]? = some (.cells #[u0, u1, u2, u3, .int .i64 0, .int .i64 0] 61 (0, 0))) :
    Calls Try.prog 35 #[.pointer (some ⟨g, 0, none⟩), .slice A n c] w fun e w' => e = .returned (.bool true) ∧ Below g w w' ∧ KeepBut w w' g none ∧ w'.heap[g]? = some (.cells #[.slice A n c, u1, u2, u3, .int .i64 0, .int .i64 1] 61 (0, 0)) := by
  have h4 : w.cell? ⟨g, 4, none⟩ = some (.int .i64 0) := blk_cell hg 4
  have h5 : w.cell? ⟨g, 5, none⟩ = some (.int .i64 0) := blk_cell hg 5
  have h0 : w.cell? ⟨g, 0, none⟩ = some u0 := blk_cell hg 0
  have hw : (IntKind.i64.wrap 0).tmod 4 = 0 := by decide
  have hw0 : IntKind.i64.wrap 0 = 0 := by decide
  have hw1 : IntKind.i64.wrap 1 = 1 := by decide
  have hf0 := blk_frozen hg 0
  have hf5 := blk_frozen hg 5
  have HG := Aside0.mk hg
  clear hg
  go_enter Try.func35, Try.ntmps35
  go_wp2
  go_region
  all_goals go_wp2
  all_goals go_ret
  all_goals exact ⟨rfl, below_drew (((Below.refl g w).setCell (p := ⟨g, 0, none⟩) (Nat.le_refl _) _).setCell (p := ⟨g, 5, none⟩) (Nat.le_refl _) _), keep_drew (((KeepBut.refl w g none).set_ 0 _).set_ 5 _), blk_drew (blk_set (blk_set HG.out 0 _) 5 _)⟩

set_option maxRecDepth 100000 in
set_option maxHeartbeats 4000000 in
theorem put1 (g : Nat) (u0 u1 u2 u3 : Value) (A : Option Addr) (n c : Nat) (w : World) (hg : w.heap[g]? = some (.cells #[u0, u1, u2, u3, .int .i64 0, .int .i64 1] 61 (0, 0))) :
    Calls Try.prog 35 #[.pointer (some ⟨g, 0, none⟩), .slice A n c] w fun e w' => e = .returned (.bool true) ∧ Below g w w' ∧ KeepBut w w' g none ∧ w'.heap[g]? = some (.cells #[u0, .slice A n c, u2, u3, .int .i64 0, .int .i64 2] 61 (0, 0)) := by
  have h4 : w.cell? ⟨g, 4, none⟩ = some (.int .i64 0) := blk_cell hg 4
  have h5 : w.cell? ⟨g, 5, none⟩ = some (.int .i64 1) := blk_cell hg 5
  have h0 : w.cell? ⟨g, 1, none⟩ = some u1 := blk_cell hg 1
  have hw : (IntKind.i64.wrap 1).tmod 4 = 1 := by decide
  have hw0 : IntKind.i64.wrap 1 = 1 := by decide
  have hw1 : IntKind.i64.wrap 2 = 2 := by decide
  have hf0 := blk_frozen hg 1
  have hf5 := blk_frozen hg 5
  have HG := Aside0.mk hg
  clear hg
  go_enter Try.func35, Try.ntmps35
  go_wp2
  go_region
  all_goals go_wp2
  all_goals go_ret
  all_goals exact ⟨rfl, below_drew (((Below.refl g w).setCell (p := ⟨g, 1, none⟩) (Nat.le_refl _) _).setCell (p := ⟨g, 5, none⟩) (Nat.le_refl _) _), keep_drew (((KeepBut.refl w g none).set_ 1 _).set_ 5 _), blk_drew (blk_set (blk_set HG.out 1 _) 5 _)⟩

set_option maxRecDepth 100000 in
set_option maxHeartbeats 4000000 in
theorem put2 (g : Nat) (u0 u1 u2 u3 : Value) (A : Option Addr) (n c : Nat) (w : World) (hg : w.heap[g]? = some (.cells #[u0, u1, u2, u3, .int .i64 0, .int .i64 2] 61 (0, 0))) :
    Calls Try.prog 35 #[.pointer (some ⟨g, 0, none⟩), .slice A n c] w fun e w' => e = .returned (.bool true) ∧ Below g w w' ∧ KeepBut w w' g none ∧ w'.heap[g]? = some (.cells #[u0, u1, .slice A n c, u3, .int .i64 0, .int .i64 3] 61 (0, 0)) := by
  have h4 : w.cell? ⟨g, 4, none⟩ = some (.int .i64 0) := blk_cell hg 4
  have h5 : w.cell? ⟨g, 5, none⟩ = some (.int .i64 2) := blk_cell hg 5
  have h0 : w.cell? ⟨g, 2, none⟩ = some u2 := blk_cell hg 2
  have hw : (IntKind.i64.wrap 2).tmod 4 = 2 := by decide
  have hw0 : IntKind.i64.wrap 2 = 2 := by decide
  have hw1 : IntKind.i64.wrap 3 = 3 := by decide
  have hf0 := blk_frozen hg 2
  have hf5 := blk_frozen hg 5
  have HG := Aside0.mk hg
  clear hg
  go_enter Try.func35, Try.ntmps35
  go_wp2
  go_region
  all_goals go_wp2
  all_goals go_ret
  all_goals exact ⟨rfl, below_drew (((Below.refl g w).setCell (p := ⟨g, 2, none⟩) (Nat.le_refl _) _).setCell (p := ⟨g, 5, none⟩) (Nat.le_refl _) _), keep_drew (((KeepBut.refl w g none).set_ 2 _).set_ 5 _), blk_drew (blk_set (blk_set HG.out 2 _) 5 _)⟩

set_option maxRecDepth 100000 in
set_option maxHeartbeats 4000000 in
theorem put3 (g : Nat) (u0 u1 u2 u3 : Value) (A : Option Addr) (n c : Nat) (w : World) (hg : w.heap[g]? = some (.cells #[u0, u1, u2, u3, .int .i64 0, .int .i64 3] 61 (0, 0))) :
    Calls Try.prog 35 #[.pointer (some ⟨g, 0, none⟩), .slice A n c] w fun e w' => e = .returned (.bool true) ∧ Below g w w' ∧ KeepBut w w' g none ∧ w'.heap[g]? = some (.cells #[u0, u1, u2, .slice A n c, .int .i64 0, .int .i64 4] 61 (0, 0)) := by
  have h4 : w.cell? ⟨g, 4, none⟩ = some (.int .i64 0) := blk_cell hg 4
  have h5 : w.cell? ⟨g, 5, none⟩ = some (.int .i64 3) := blk_cell hg 5
  have h0 : w.cell? ⟨g, 3, none⟩ = some u3 := blk_cell hg 3
  have hw : (IntKind.i64.wrap 3).tmod 4 = 3 := by decide
  have hw0 : IntKind.i64.wrap 3 = 3 := by decide
  have hw1 : IntKind.i64.wrap 4 = 4 := by decide
  have hf0 := blk_frozen hg 3
  have hf5 := blk_frozen hg 5
  have HG := Aside0.mk hg
  clear hg
  go_enter Try.func35, Try.ntmps35
  go_wp2
  go_region
  all_goals go_wp2
  all_goals go_ret
  all_goals exact ⟨rfl, below_drew (((Below.refl g w).setCell (p := ⟨g, 3, none⟩) (Nat.le_refl _) _).setCell (p := ⟨g, 5, none⟩) (Nat.le_refl _) _), keep_drew (((KeepBut.refl w g none).set_ 3 _).set_ 5 _), blk_drew (blk_set (blk_set HG.out 3 _) 5 _)⟩

theorem put_any (g : Nat) (us : List Sl) (x : Sl) (h : us.length < 4) (w : World) (hg : w.heap[g]? = some (.cells (ring us) 61 (0, 0))) :
    Calls Try.prog 35 #[.pointer (some ⟨g, 0, none⟩), x.v] w fun e w' => e = .returned (.bool true) ∧ Below g w w' ∧ KeepBut w w' g none ∧ w'.heap[g]? = some (.cells (ring (us ++ [x])) 61 (0, 0)) := by
  match us, h with
  | [], _ => exact put0 g _ _ _ _ x.1 x.2.1 x.2.2 w hg
  | [a], _ => exact put1 g _ _ _ _ x.1 x.2.1 x.2.2 w hg
  | [a, b], _ => exact put2 g _ _ _ _ x.1 x.2.1 x.2.2 w hg
  | [a, b, c], _ => exact put3 g _ _ _ _ x.1 x.2.1 x.2.2 w hg

set_option maxRecDepth 100000 in
set_option maxHeartbeats 4000000 in
theorem take_none (g : Nat) (u0 u1 u2 u3 : Value) (w : World) (hg : w.heap[g]? = some (.cells #[u0, u1, u2, u3, .int .i64 0, .int .i64 0] 61 (0, 0))) :
    Calls Try.prog 38 #[.pointer (some ⟨g, 0, none⟩)] w fun e w' => e = .returned (.tuple #[nil, .bool false]) ∧ w' = w := by
  have h5 : w.cell? ⟨g, 5, none⟩ = some (.int .i64 0) := blk_cell hg 5
  clear hg
  go_enter Try.func38, Try.ntmps38
  go_wp2
  go_ret2
  exact ⟨rfl, rfl⟩

set_option maxRecDepth 100000 in
set_option maxHeartbeats 4000000 in
theorem take_some (g : Nat) (A : Option Addr) (n c : Nat) (u1 u2 u3 : Value) (m : Int) (h0 : 1 ≤ m) (hm : m ≤ 4) (w : World) (hg : w.heap[g]? = some (.cells #[.slice A n c, u1, u2, u3, .int .i64 0, .int .i64 m] 61 (0, 0))) :
    Calls Try.prog 38 #[.pointer (some ⟨g, 0, none⟩)] w fun e w' => e = .returned (.tuple #[.slice A n c, .bool true]) ∧ Below g w w' ∧ KeepBut w w' g none ∧ w'.heap[g]? = some (.cells #[nil, u1, u2, u3, .int .i64 1, .int .i64 (m - 1)] 61 (0, 0)) := by
  have h4 : w.cell? ⟨g, 4, none⟩ = some (.int .i64 0) := blk_cell hg 4
  have h5 : w.cell? ⟨g, 5, none⟩ = some (.int .i64 m) := blk_cell hg 5
  have h00 : w.cell? ⟨g, 0, none⟩ = some (.slice A n c) := blk_cell hg 0
  have hw : (IntKind.i64.wrap 0).tmod 4 = 0 := by decide
  have hw1 : (IntKind.i64.wrap 1).tmod 4 = 1 := by decide
  have hwm : IntKind.i64.wrap (m - 1) = m - 1 := Go.Proofs.YtekeehhbalhfiaaPl.wraps_i64 _ (by omega) (by omega)
  have he : (m == 0) = false := by rw [beq_eq_false_iff_ne]; omega
  have hf0 := blk_frozen hg 0
  have hf4 := blk_frozen hg 4
  have hf5 := blk_frozen hg 5
  have HG := Aside0.mk hg
  clear hg
  go_enter Try.func38, Try.ntmps38
  go_wp2
  go_region
  all_goals go_wp2
  all_goals go_region
  all_goals go_wp2
  all_goals go_ret2
  all_goals exact ⟨rfl, below_drew (below_drew ((((Below.refl g w).setCell (p := ⟨g, 0, none⟩) (Nat.le_refl _) _).setCell (p := ⟨g, 4, none⟩) (Nat.le_refl _) _).setCell (p := ⟨g, 5, none⟩) (Nat.le_refl _) _)), keep_drew (keep_drew ((((KeepBut.refl w g none).set_ 0 _).set_ 4 _).set_ 5 _)), blk_drew (blk_drew (blk_set (blk_set (blk_set HG.out 0 _) 4 _) 5 _))⟩
end Go.Proofs.YtekeehhbalhfiaaBoxPut1
