/- A map keyed by nodes 0, 1, ..: what it answers and what becomes of it. Conditions: four nodes at most. -/
import Derived.Test.YtaohaebgpbagmaaProg
import Derived.Test.YtaohaebgpbagmaaVMore
import Derived.WalkKit
import Derived.Maps.Own
import Derived.Maps.OwnSet
import Derived.DeepKeys4
set_option linter.unusedVariables false
set_option linter.unusedSimpArgs false
namespace Go.Proofs.YtaohaebgpbagmaaHrdMap
open Go.RowKit Go.Proofs.YtaohaebgpbagmaaW.PrintWords Go.MapKept Go.ChangeMaps
def KEY (i : Int) : Value := .agg #[.int .i64 i]
def VAL (p : Int × Int) : Value := .agg #[.int .i64 p.1, .int .i64 p.2]
theorem laidOut : laidOutB Try.prog = true := by kernel_rfl
theorem keyed : Maps.Keyed Try.prog 82 := Maps.Keyed.of_law (deep_law_laid laidOut (m := 2) (by decide) (of_decide_eq_true (by kernel_rfl)) (by kernel_rfl) (by kernel_rfl))
theorem keyAt (i : Nat) (hi : i < 4) : ∃ l, keyOf Try.prog 82 (KEY i) = some l := by
  match i, hi with
  | 0, _ => exact Option.isSome_iff_exists.1 (by kernel_rfl)
  | 1, _ => exact Option.isSome_iff_exists.1 (by kernel_rfl)
  | 2, _ => exact Option.isSome_iff_exists.1 (by kernel_rfl)
  | 3, _ => exact Option.isSome_iff_exists.1 (by kernel_rfl)
theorem KEY_inj {i j : Nat} (h : KEY i = KEY j) : i = j := by
  simp [KEY] at h
  omega
/-- Block b is a map from node i to the i-th of these pairs. -/
def DM (w : World) (b : Nat) (L : List (Int × Int)) : Prop := ∃ es clock, w.heap[b]? = some (.map es clock) ∧ es.toList.map (fun e => (e.key, e.val)) = L.zipIdx.map (fun p => (KEY (p.2 : Int), VAL p.1))
theorem zip_get (L : List (Int × Int)) (j : Nat) (p : Value × Value) (h : (L.zipIdx.map (fun p => (KEY (p.2 : Int), VAL p.1)))[j]? = some p) : ∃ hj : j < L.length, p = (KEY (j : Int), VAL L[j]) := by
  rw [List.getElem?_map, List.getElem?_zipIdx] at h
  by_cases hj : j < L.length
  · refine ⟨hj, ?_⟩
    rw [List.getElem?_eq_getElem hj] at h
    simpa using h.symm
  · rw [List.getElem?_eq_none (by omega)] at h
    simp at h
theorem DM.size {w : World} {b : Nat} {L : List (Int × Int)} {es : Array MapEntry} (h : es.toList.map (fun e => (e.key, e.val)) = L.zipIdx.map (fun p => (KEY (p.2 : Int), VAL p.1))) : es.size = L.length := by
  have := congrArg List.length h
  simpa using this
theorem DM.at_ {L : List (Int × Int)} {es : Array MapEntry} (h : es.toList.map (fun e => (e.key, e.val)) = L.zipIdx.map (fun p => (KEY (p.2 : Int), VAL p.1))) {j : Nat} {e : MapEntry} (he : es.toList[j]? = some e) : ∃ hj : j < L.length, e.key = KEY (j : Int) ∧ e.val = VAL L[j] := by
  have h1 := congrArg (fun l => l[j]?) h
  simp only [List.getElem?_map, he, Option.map_some] at h1
  obtain ⟨hj, e2⟩ := zip_get L j (e.key, e.val) (by rw [List.getElem?_map]; exact h1.symm)
  injection e2 with e3 e4
  exact ⟨hj, e3, e4⟩
theorem DM.keys {L : List (Int × Int)} {es : Array MapEntry} (h : es.toList.map (fun e => (e.key, e.val)) = L.zipIdx.map (fun p => (KEY (p.2 : Int), VAL p.1))) (hL : L.length ≤ 4) : ∀ e ∈ es.toList, ∃ l, keyOf Try.prog 82 e.key = some l := fun e he => by
  obtain ⟨j, hj⟩ := List.mem_iff_getElem?.1 he
  obtain ⟨hj', e1, _⟩ := DM.at_ h hj
  rw [e1]
  exact keyAt j (by omega)
theorem DM.look {w : World} {b : Nat} {L : List (Int × Int)} (h : DM w b L) (hL : L.length ≤ 4) (i : Nat) (hi : i < L.length) : (Instr.lookup 77 (.map (some b)) (KEY i) false).run Try.prog w = .ok (VAL L[i]) w := by
  obtain ⟨es, clock, hb, hm⟩ := h
  obtain ⟨l, hl⟩ := keyAt i (by omega)
  have ht : Try.prog.underlying 77 = some (.map 82 80) := Try.underlying77
  rcases keyed.find w hl es.toList (DM.keys hm hL) with ⟨h1, h2⟩ | ⟨j, e0, h1, h2, h3⟩
  · exfalso
    have hs := DM.size (w := w) (b := b) hm
    have hi2 : i < es.toList.length := by simpa [hs] using hi
    obtain ⟨_, e1, _⟩ := DM.at_ hm (List.getElem?_eq_getElem hi2)
    exact h2 _ (List.getElem_mem hi2) e1
  · obtain ⟨hj, e1, e2⟩ := DM.at_ hm h2
    have : j = i := KEY_inj (e1.symm.trans h3)
    subst this
    rw [← e2]
    simp [Instr.lookup, run_underlying ht, MapKept.run_getObj_map hb, keyed.check w _ hl, h1, Result.andThen]
theorem DM.put_new {w : World} {b : Nat} {L : List (Int × Int)} (h : DM w b L) (hL : L.length < 4) (p : Int × Int) : ∃ w', (Instr.mapUpdate 77 (.map (some b)) (KEY (L.length : Int)) (VAL p)).run Try.prog w = .ok () w' ∧ DM w' b (L ++ [p]) ∧ w.grownBy w' (some b) := by
  obtain ⟨es, clock, hb, hm⟩ := h
  obtain ⟨l, hl⟩ := keyAt L.length (by omega)
  have ht : Try.prog.underlying 77 = some (.map 82 80) := Try.underlying77
  rcases keyed.find w hl es.toList (DM.keys hm (by omega)) with ⟨h1, h2⟩ | ⟨j, e0, h1, h2, h3⟩
  · refine ⟨setBlock w b (.map (es.push ⟨KEY (L.length : Int), VAL p, clock⟩) (clock + 1)), ?_, ⟨_, _, heap_setBlock_same hb _, ?_⟩, ⟨rfl, rfl, rfl, by simp [setBlock], fun i _ hi => heap_setBlock_other hb _ (fun e => hi (by rw [e]))⟩⟩
    · simp [Instr.mapUpdate, run_underlying ht, MapKept.run_getObj_map hb, keyed.check w false hl, h1, MapKept.run_setObj_map _ hb, Result.andThen, setBlock]
    · rw [Array.toList_push, List.map_append, hm, List.zipIdx_append, List.map_append]
      simp
  · exfalso
    obtain ⟨hj, e1, _⟩ := DM.at_ hm h2
    have : j = L.length := KEY_inj (e1.symm.trans h3)
    omega
theorem DM.put_old {w : World} {b : Nat} {L : List (Int × Int)} (h : DM w b L) (hL : L.length ≤ 4) (i : Nat) (hi : i < L.length) (p : Int × Int) : ∃ w', (Instr.mapUpdate 77 (.map (some b)) (KEY i) (VAL p)).run Try.prog w = .ok () w' ∧ DM w' b (L.set i p) ∧ w.grownBy w' (some b) := by
  obtain ⟨es, clock, hb, hm⟩ := h
  obtain ⟨l, hl⟩ := keyAt i (by omega)
  have ht : Try.prog.underlying 77 = some (.map 82 80) := Try.underlying77
  rcases keyed.find w hl es.toList (DM.keys hm hL) with ⟨h1, h2⟩ | ⟨j, e0, h1, h2, h3⟩
  · exfalso
    have hs := DM.size (w := w) (b := b) hm
    have hi2 : i < es.toList.length := by simpa [hs] using hi
    obtain ⟨_, e1, _⟩ := DM.at_ hm (List.getElem?_eq_getElem hi2)
    exact h2 _ (List.getElem_mem hi2) e1
  · obtain ⟨hj, e1, e2⟩ := DM.at_ hm h2
    have : j = i := KEY_inj (e1.symm.trans h3)
    subst this
    have hj2 : es[j]? = some e0 := by simpa using h2
    refine ⟨setBlock w b (.map (es.modify j fun e => { e with key := KEY j, val := VAL p }) clock), ?_, ⟨_, _, heap_setBlock_same hb _, ?_⟩, ⟨rfl, rfl, rfl, by simp [setBlock], fun i _ hi => heap_setBlock_other hb _ (fun e => hi (by rw [e]))⟩⟩
    · simp [Instr.mapUpdate, run_underlying ht, MapKept.run_getObj_map hb, keyed.check w false hl, h1, hj2, h3, keyed.stays w hl, MapKept.run_setObj_map _ hb, Result.andThen, setBlock]
    · apply List.ext_getElem?
      intro k
      rw [List.getElem?_map, Array.getElem?_toList, Array.getElem?_modify]
      have hk := congrArg (fun l => l[k]?) hm
      simp only [List.getElem?_map, Array.getElem?_toList, List.getElem?_zipIdx] at hk
      rw [List.getElem?_map, List.getElem?_zipIdx]
      by_cases hjk : j = k
      · subst hjk
        simp [hj2, List.getElem?_set_self hj]
      · rw [if_neg hjk, List.getElem?_set_ne hjk]
        exact hk
theorem DM.len {w : World} {b : Nat} {L : List (Int × Int)} (h : DM w b L) (hL : L.length ≤ 4) (ty : TypeId) : (Builtin.len_ #[77] ty #[.map (some b)]).run Try.prog w = .ok (.int .i64 L.length) w := by
  obtain ⟨es, clock, hb, hm⟩ := h
  have ht : Try.prog.underlying 77 = some (.map 82 80) := Try.underlying77
  rw [← DM.size (w := w) (b := b) hm]
  simp [Builtin.len_, run_underlying ht, MapKept.run_getObj_map hb, goInt, Result.andThen]
theorem DM.made (w : World) : DM (w.alloc (.map #[] 0)) w.heap.size [] := ⟨#[], 0, (MapKept.heap_alloc w _).1, rfl⟩
theorem DM.below {w w' : World} {b : Nat} {L : List (Int × Int)} (h : DM w b L) (hb : Below w.heap.size w w') : DM w' b L := by
  obtain ⟨es, clock, h1, hm⟩ := h
  exact ⟨es, clock, (hb.block b (Array.getElem?_eq_some_iff.1 h1).1).trans h1, hm⟩
theorem DM.kept {w w' : World} {b : Nat} {L : List (Int × Int)} {row : Option Nat} (h : DM w b L) (hg : w.grownBy w' row) (hne : some b ≠ row) : DM w' b L := by
  obtain ⟨es, clock, h1, hm⟩ := h
  exact ⟨es, clock, (hg.block b (Array.getElem?_eq_some_iff.1 h1).1 hne).trans h1, hm⟩
theorem DM.set {w : World} {b : Nat} {L : List (Int × Int)} (h : DM w b L) {p : Addr} (hne : b ≠ p.block) (u : Value) : DM (w.setCell p u) b L := by
  obtain ⟨es, clock, h1, hm⟩ := h
  exact ⟨es, clock, (Below.heap_setCell w p u b hne).trans h1, hm⟩
theorem DM.drew {w : World} {b : Nat} {L : List (Int × Int)} (h : DM w b L) : DM w.drew b L := h
end Go.Proofs.YtaohaebgpbagmaaHrdMap
