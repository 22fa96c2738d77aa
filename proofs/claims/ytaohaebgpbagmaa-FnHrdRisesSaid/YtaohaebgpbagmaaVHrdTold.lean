/- HrdHear in the print's own contract form. Conditions: what memory can hold. -/
import Derived.Test.YtaohaebgpbagmaaVHrdHear
set_option linter.unusedVariables false
set_option linter.unusedSimpArgs false
namespace Go.Proofs.YtaohaebgpbagmaaHrdTold
open Go.RowKit Go.Proofs.YtaohaebgpbagmaaW.PrintWords Go.Proofs.YtaohaebgpbagmaaPl Go.Proofs.YtaohaebgpbagmaaHrdMap Go.Proofs.YtaohaebgpbagmaaHrdOpen Go.Proofs.YtaohaebgpbagmaaHrdHear
def hearZ (bs ss : List Int) (node boot seq : Int) : List Int × List Int × Int :=
  if hearB bs ss node boot seq = true then (if boot > rd bs node then (bs.set node.toNat boot, ss.set node.toNat seq, 1) else if boot = rd bs node ∧ seq > rd ss node then (bs.set node.toNat boot, ss.set node.toNat seq, 2) else (bs, ss, 3)) else ([], [], 0)
theorem fst_zip (bs ss : List Int) (h : ss.length = bs.length) : (bs.zip ss).map Prod.fst = bs := List.map_fst_zip (by omega)
theorem snd_zip (bs ss : List Int) (h : ss.length = bs.length) : (bs.zip ss).map Prod.snd = ss := List.map_snd_zip (by omega)
theorem fst_set (bs ss : List Int) (h : ss.length = bs.length) (i : Nat) (x y : Int) : ((bs.zip ss).set i (x, y)).map Prod.fst = bs.set i x := by rw [List.map_set, fst_zip bs ss h]
theorem snd_set (bs ss : List Int) (h : ss.length = bs.length) (i : Nat) (x y : Int) : ((bs.zip ss).set i (x, y)).map Prod.snd = ss.set i y := by rw [List.map_set, snd_zip bs ss h]
theorem hear_told (A1 : Option Addr) (c1 : Nat) (bs : List Int) (A2 : Option Addr) (c2 : Nat) (ss : List Int) (node boot seq : Int) (r1 r2 : List Int) (r3 : Int) (w : World) (hr1 : Kd.C KI w A1 bs.length bs) (hc1 : bs.length ≤ c1) (hr2 : Kd.C KI w A2 ss.length ss) (hc2 : ss.length ≤ c2) (h : hearZ bs ss node boot seq = (r1, r2, r3)) :
    Calls Try.prog 26 #[.agg #[.slice A1 bs.length c1, .slice A2 ss.length c2], .int .i64 node, .int .i64 boot, .int .i64 seq] w fun e w' => ∃ v0_ v1_ : Value, e = .returned (.tuple #[.agg #[v0_, v1_], .int .i64 r3]) ∧ Kd.R KI 3 w' w.heap.size (fun k_ => some k_ ≠ (v1_ : Value).ownBlock) v0_ r1 ∧ Kd.R KI 3 w' w.heap.size (fun k_ => some k_ ≠ (v0_ : Value).ownBlock) v1_ r2 ∧ Below w.heap.size w w' := by
  unfold hearZ at h
  by_cases hb : hearB bs ss node boot seq = true
  · rw [if_pos hb] at h
    unfold hearB at hb
    rw [Bool.and_eq_true, Bool.and_eq_true, Bool.and_eq_true, decide_eq_true_eq, decide_eq_true_eq, decide_eq_true_eq] at hb
    obtain ⟨⟨⟨h1, h2⟩, h3⟩, h4⟩ := hb
    obtain ⟨_, _, hss⟩ := hrd_lens h1
    obtain ⟨i, rfl⟩ : ∃ i : Nat, node = (i : Int) := ⟨node.toNat, by omega⟩
    have hi : i < bs.length := by omega
    have hxy : (bs.zip ss)[i]? = some (rd bs (i : Int), rd ss (i : Int)) := by
      rw [rd_nat bs i hi, rd_nat ss i (by omega), List.getElem?_eq_getElem (by simp [hss]; omega), List.getElem_zip]
    rw [show ((i : Int)).toNat = i from rfl] at h
    by_cases h5 : boot > rd bs (i : Int)
    · rw [if_pos h5] at h
      cases h
      have := good1 A1 c1 bs A2 c2 ss i boot seq w hr1 hc1 hr2 hc2 h1 hi h3 h4 _ _ hxy h5
      rw [fst_set bs ss hss, snd_set bs ss hss] at this
      exact this
    · rw [if_neg h5] at h
      by_cases h6 : boot = rd bs (i : Int) ∧ seq > rd ss (i : Int)
      · rw [if_pos h6] at h
        cases h
        have := good2 A1 c1 bs A2 c2 ss i boot seq w hr1 hc1 hr2 hc2 h1 hi h3 h4 _ _ hxy h6.1 h6.2
        rw [fst_set bs ss hss, snd_set bs ss hss] at this
        exact this
      · rw [if_neg h6] at h
        cases h
        by_cases h7 : boot < rd bs (i : Int)
        · have := good3a A1 c1 bs A2 c2 ss i boot seq w hr1 hc1 hr2 hc2 h1 hi h3 h4 _ _ hxy h7
          rw [fst_zip bs ss hss, snd_zip bs ss hss] at this
          exact this
        · have := good3b A1 c1 bs A2 c2 ss i boot seq w hr1 hc1 hr2 hc2 h1 hi h3 h4 _ _ hxy (by omega) (fun h8 => h6 ⟨by omega, h8⟩)
          rw [fst_zip bs ss hss, snd_zip bs ss hss] at this
          exact this
  · rw [if_neg hb] at h
    cases h
    have bad : Calls Try.prog 26 #[.agg #[.slice A1 bs.length c1, .slice A2 ss.length c2], .int .i64 node, .int .i64 boot, .int .i64 seq] w fun e w' => e = .returned (.tuple #[.agg #[.slice none 0 0, .slice none 0 0], .int .i64 0]) ∧ Below w.heap.size w w' := by
      by_cases h1 : hrdB bs ss = true
      · by_cases h2 : 0 ≤ node ∧ node < (bs.length : Int)
        · by_cases h3 : boot < 1
          · exact bad3 A1 c1 bs A2 c2 ss node boot seq w hr1 hc1 hr2 hc2 h1 h2 h3
          · by_cases h4 : boot > 60000
            · exact bad4 A1 c1 bs A2 c2 ss node boot seq w hr1 hc1 hr2 hc2 h1 h2 h4
            · by_cases h5 : seq < 0
              · exact bad5 A1 c1 bs A2 c2 ss node boot seq w hr1 hc1 hr2 hc2 h1 h2 (by omega) h5
              · by_cases h6 : seq > 60000
                · exact bad6 A1 c1 bs A2 c2 ss node boot seq w hr1 hc1 hr2 hc2 h1 h2 (by omega) h6
                · exact absurd (by
                    unfold hearB
                    rw [h1, decide_eq_true h2, decide_eq_true (show 1 ≤ boot ∧ boot ≤ 60000 by omega), decide_eq_true (show 0 ≤ seq ∧ seq ≤ 60000 by omega)]
                    rfl) hb
        · exact bad2 A1 c1 bs A2 c2 ss node boot seq w hr1 hc1 hr2 hc2 h1 h2
      · exact bad1 A1 c1 bs A2 c2 ss node boot seq w hr1 hc1 hr2 hc2 (by simpa using h1)
    refine bad.mono ?_
    rintro e w' ⟨rfl, hb⟩
    exact ⟨_, _, rfl, Kd.R_nil _ _ _ _ _, Kd.R_nil _ _ _ _ _, hb⟩
end Go.Proofs.YtaohaebgpbagmaaHrdTold
