/- HrdHear: a hello is noted. Conditions: what memory can hold. -/
import Derived.Test.YtaohaebgpbagmaaVHrdOpen
import Derived.Test.YtaohaebgpbagmaaVPHrdBase
set_option linter.unusedVariables false
set_option linter.unusedSimpArgs false
namespace Go.Proofs.YtaohaebgpbagmaaHrdHear
open Go.RowKit Go.Proofs.YtaohaebgpbagmaaW.PrintWords Go.Proofs.YtaohaebgpbagmaaPl Go.Proofs.YtaohaebgpbagmaaHrdMap Go.Proofs.YtaohaebgpbagmaaHrdOpen Go.Proofs.Ytaohaebgpbagmaa.PHrdBase
def hrdAt (b s : Int) : Bool := decide ((0 ≤ b ∧ b ≤ 60000) ∧ (0 ≤ s ∧ s ≤ 60000) ∧ (b = 0 → s = 0))
def hrdB (bs ss : List Int) : Bool := decide ((1 ≤ bs.length ∧ bs.length ≤ 4) ∧ ss.length = bs.length) && (List.range bs.length).all fun i => hrdAt (rd bs i) (rd ss i)
theorem implHrd_loop (bs ss : List Int) (h : ss.length = bs.length) (hb : bs.length ≤ 4) (k : Nat) (hk : bs.length < k) : impl_HrdOk.l0 k bs (bs.length : Int) 0 bs ss = some ((List.range bs.length).all fun i => hrdAt (rd bs i) (rd ss i)) := by
  refine all_loop (fun k i => impl_HrdOk.l0 k bs (bs.length : Int) i bs ss) bs.length _ (fun k i hi => ?_) (fun k => ?_) k hk
  · simp only [impl_HrdOk.l0]
    rw [if_pos (by omega), if_pos (by omega), if_pos (show (i : Int) < (bs.length : Int) by omega), if_pos (show (i : Int) < (ss.length : Int) by omega), wrap_nat (by omega)]
    unfold hrdAt
    by_cases h1 : rd bs i < 0
    · simp [h1, show ¬ 0 ≤ rd bs i by omega]
    · by_cases h2 : rd bs i > 60000
      · simp [h1, h2, show ¬ rd bs i ≤ 60000 by omega]
      · by_cases h3 : rd ss i < 0
        · simp [h1, h2, h3, show ¬ 0 ≤ rd ss i by omega]
        · by_cases h4 : rd ss i > 60000
          · simp [h1, h2, h3, h4, show ¬ rd ss i ≤ 60000 by omega]
          · by_cases h5 : rd bs i = 0
            · by_cases h6 : rd ss i = 0
              · simp [h5, h6]
              · simp [h3, h4, h5, h6]
            · simp [h1, h2, h3, h4, h5, show 0 ≤ rd bs i by omega, show rd bs i ≤ 60000 by omega, show 0 ≤ rd ss i by omega, show rd ss i ≤ 60000 by omega]
  · simp only [impl_HrdOk.l0]
    rw [if_neg (by omega)]
theorem implHrd_eq (bs ss : List Int) (k : Nat) (hk : 7 ≤ k) : impl_HrdOk.f k bs ss = some (hrdB bs ss) := by
  obtain ⟨k, rfl⟩ : ∃ m, k = m + 1 := ⟨k - 1, by omega⟩
  unfold impl_HrdOk.f hrdB
  simp only [impl_HrdOk.j0]
  by_cases h1 : 1 ≤ bs.length ∧ bs.length ≤ 4
  · rw [if_neg (by omega), if_neg (by omega)]
    by_cases h2 : ss.length = bs.length
    · rw [if_neg (by simp [h2]), implHrd_loop bs ss h2 h1.2 k (by omega)]
      simp [h1, h2]
    · rw [if_pos (by simp; omega)]
      simp [h2]
  · by_cases h3 : (bs.length : Int) < 1
    · rw [if_pos h3]
      simp [h1]
    · rw [if_neg h3, if_pos (by omega)]
      simp [h1]
theorem hrd_lens {bs ss : List Int} (h : hrdB bs ss = true) : 1 ≤ bs.length ∧ bs.length ≤ 4 ∧ ss.length = bs.length := by
  unfold hrdB at h
  rw [Bool.and_eq_true, decide_eq_true_eq] at h
  exact ⟨h.1.1.1, h.1.1.2, h.1.2⟩
theorem ok_any (A1 : Option Addr) (c1 : Nat) (bs : List Int) (A2 : Option Addr) (c2 : Nat) (ss : List Int) (w : World) (hr1 : Kd.C KI w A1 bs.length bs) (hc1 : bs.length ≤ c1) (hr2 : Kd.C KI w A2 ss.length ss) (hc2 : ss.length ≤ c2) (W : World) (hB : Below w.heap.size w W) :
    Calls Try.prog 29 #[.agg #[.slice A1 bs.length c1, .slice A2 ss.length c2]] W fun e w' => e = .returned (.bool (hrdB bs ss)) ∧ Below W.heap.size W w' :=
  impl_HrdOk.calls 7 A1 c1 bs A2 c2 ss _ W (Kd.C_below hr1 hB) hc1 (Kd.C_below hr2 hB) hc2 (implHrd_eq bs ss 7 (by omega))
theorem has_any (a b : Int) (W : World) : Calls Try.prog 54 #[.int .i64 a, .int .i64 b] W fun e w' => e = .returned (.bool (decide (0 ≤ a ∧ a < b))) ∧ Below W.heap.size W w' := by
  refine (impl_plnHas.calls a b (decide (0 ≤ a ∧ a < b)) W ?_).mono ?_
  · unfold impl_plnHas.f
    by_cases h : a ≥ 0
    · rw [if_pos h]
      simp [show 0 ≤ a from h]
    · rw [if_neg h]
      simp [show ¬ 0 ≤ a by omega]
  · rintro e w' ⟨rfl, hd⟩
    exact ⟨rfl, hd.below⟩
/-- What the walk knows behind each call. -/
def St (s1 s2 : Value) (w W : World) : Prop := Below w.heap.size w W ∧ W.heap[w.heap.size]? = some (.cells #[s1, s2] 37 (0, 0)) ∧ W.heap[w.heap.size + 1]? = some (.cells #[.slice none 0 0, .slice none 0 0] 37 (0, 0))
theorem St.start (s1 s2 : Value) (w : World) : St s1 s2 w ((w.alloc (.cells #[s1, s2] 37)).alloc (.cells #[.slice none 0 0, .slice none 0 0] 37)) := by
  have h1 := heap_alloc_new w (.cells #[s1, s2] 37 (0, 0))
  have h2 := heap_alloc_new (w.alloc (.cells #[s1, s2] 37)) (.cells #[.slice none 0 0, .slice none 0 0] 37 (0, 0))
  rw [show (w.alloc (.cells #[s1, s2] 37)).heap.size = w.heap.size + 1 by simp] at h2
  exact ⟨((Below.refl _ _).alloc (Nat.le_refl _) _).alloc (by simp) _, blk_alloc h1 _, h2⟩
theorem St.bel {s1 s2 : Value} {w W : World} (h : St s1 s2 w W) : Below w.heap.size w W := h.1
theorem St.res {s1 s2 : Value} {w W : World} (h : St s1 s2 w W) : W.heap[w.heap.size + 1]? = some (.cells #[.slice none 0 0, .slice none 0 0] 37 (0, 0)) := h.2.2
theorem St.next {s1 s2 : Value} {w W W1 : World} (h : St s1 s2 w W) (hb : Below W.heap.size W W1) : St s1 s2 w W1 := ⟨h.1.trans (hb.mono h.1.size), blk_below h.2.1 hb, blk_below h.2.2 hb⟩
theorem St.grown {s1 s2 : Value} {w W W1 : World} {b : Nat} (h : St s1 s2 w W) (hg : W.grownBy W1 (some b)) (hb : w.heap.size + 1 < b) : St s1 s2 w W1 := ⟨h.1.grown hg h.1.size (fun q hq => by injection hq with hq; omega), blk_grown h.2.1 hg (fun he => by injection he with he; omega), blk_grown h.2.2 hg (fun he => by injection he with he; omega)⟩
theorem St.cells {s1 s2 : Value} {w W : World} (h : St s1 s2 w W) : W.cell? ⟨w.heap.size, 0, none⟩ = some s1 ∧ W.cell? ⟨w.heap.size, 1, none⟩ = some s2 ∧ W.cell? ⟨w.heap.size + 1, 0, none⟩ = some (.slice none 0 0) ∧ W.cell? ⟨w.heap.size + 1, 1, none⟩ = some (.slice none 0 0) ∧ W.frozen? ⟨w.heap.size + 1, 0, none⟩ = false ∧ W.frozen? ⟨w.heap.size + 1, 1, none⟩ = false ∧ w.heap.size + 1 < W.heap.size := ⟨(cells2 h.2.1).1, (cells2 h.2.1).2, (cells2 h.2.2).1, (cells2 h.2.2).2, blk_frozen h.2.2 0, blk_frozen h.2.2 1, blk_lt h.2.2⟩
def hearB (bs ss : List Int) (node boot seq : Int) : Bool := hrdB bs ss && decide (0 ≤ node ∧ node < (bs.length : Int)) && decide (1 ≤ boot ∧ boot ≤ 60000) && decide (0 ≤ seq ∧ seq ≤ 60000)

set_option maxRecDepth 100000 in
set_option maxHeartbeats 2000000 in
theorem bad1 (A1 : Option Addr) (c1 : Nat) (bs : List Int) (A2 : Option Addr) (c2 : Nat) (ss : List Int) (node boot seq : Int) (w : World) (hr1 : Kd.C KI w A1 bs.length bs) (hc1 : bs.length ≤ c1) (hr2 : Kd.C KI w A2 ss.length ss) (hc2 : ss.length ≤ c2) (h1 : hrdB bs ss = false) :
    Calls Try.prog 26 #[.agg #[.slice A1 bs.length c1, .slice A2 ss.length c2], .int .i64 node, .int .i64 boot, .int .i64 seq] w fun e w' => e = .returned (.tuple #[.agg #[.slice none 0 0, .slice none 0 0], .int .i64 0]) ∧ Below w.heap.size w w' := by
  have HS0 := Aside0.mk (St.start (.slice A1 bs.length c1) (.slice A2 ss.length c2) w)
  have HOK := Aside0.mk (ok_any A1 c1 bs A2 c2 ss w hr1 hc1 hr2 hc2)
  have HPL := Aside0.mk (has_any node (bs.length : Int))
  rw [h1] at HOK
  obtain ⟨n1, hn1⟩ : ∃ n, n = bs.length := ⟨_, rfl⟩
  obtain ⟨n2, hn2⟩ : ∃ n, n = ss.length := ⟨_, rfl⟩
  rw [← hn1] at HS0 HOK HPL ⊢
  rw [← hn2] at HS0 HOK ⊢
  clear hr1 hc1 hr2 hc2 hn1 hn2 h1
  go_enter Try.func26, Try.ntmps26
  go_wp2_with (first | (go_at_call 29; with_reducible refine (HOK.out _ HS0.out.bel).mono ?_; rintro e w1 ⟨rfl, hb⟩; have HS1 := Aside0.mk (HS0.out.next hb); obtain ⟨k0, k1, k2, k3, k4, k5, k6⟩ := HS1.out.cells; clear hb))
  refine bodyPost_ret (results_ct rfl _ _ (w.heap.size + 1) 37 #[.slice none 0 0, .slice none 0 0] (0, 0) _ rfl (blk_set (blk_set HS1.out.res 0 _) 1 _) Try.underlying37 rfl (by kernel_rfl)) rfl ?_
  exact ⟨rfl, (HS1.out.bel.setCell (p := ⟨w.heap.size + 1, 0, none⟩) (by simp) _).setCell (p := ⟨w.heap.size + 1, 1, none⟩) (by simp) _⟩

set_option maxRecDepth 100000 in
set_option maxHeartbeats 2000000 in
theorem bad2 (A1 : Option Addr) (c1 : Nat) (bs : List Int) (A2 : Option Addr) (c2 : Nat) (ss : List Int) (node boot seq : Int) (w : World) (hr1 : Kd.C KI w A1 bs.length bs) (hc1 : bs.length ≤ c1) (hr2 : Kd.C KI w A2 ss.length ss) (hc2 : ss.length ≤ c2) (h1 : hrdB bs ss = true) (h2 : ¬ (0 ≤ node ∧ node < (bs.length : Int))) :
    Calls Try.prog 26 #[.agg #[.slice A1 bs.length c1, .slice A2 ss.length c2], .int .i64 node, .int .i64 boot, .int .i64 seq] w fun e w' => e = .returned (.tuple #[.agg #[.slice none 0 0, .slice none 0 0], .int .i64 0]) ∧ Below w.heap.size w w' := by
  have HS0 := Aside0.mk (St.start (.slice A1 bs.length c1) (.slice A2 ss.length c2) w)
  have HOK := Aside0.mk (ok_any A1 c1 bs A2 c2 ss w hr1 hc1 hr2 hc2)
  have HPL := Aside0.mk (has_any node (bs.length : Int))
  rw [h1] at HOK
  rw [decide_eq_false h2] at HPL
  obtain ⟨n1, hn1⟩ : ∃ n, n = bs.length := ⟨_, rfl⟩
  obtain ⟨n2, hn2⟩ : ∃ n, n = ss.length := ⟨_, rfl⟩
  rw [← hn1] at HS0 HOK HPL ⊢
  rw [← hn2] at HS0 HOK ⊢
  clear hr1 hc1 hr2 hc2 hn1 hn2 h1 h2
  go_enter Try.func26, Try.ntmps26
  go_wp2_with (first | (go_at_call 29; with_reducible refine (HOK.out _ HS0.out.bel).mono ?_; rintro e w1 ⟨rfl, hb⟩; have HS1 := Aside0.mk (HS0.out.next hb); obtain ⟨k0, k1, k2, k3, k4, k5, k6⟩ := HS1.out.cells; clear hb) | (go_at_call 54; with_reducible refine (HPL.out _).mono ?_; rintro e w2 ⟨rfl, hb⟩; have HS2 := Aside0.mk (HS1.out.next hb); clear k0 k1 k2 k3 k4 k5 k6; obtain ⟨k0, k1, k2, k3, k4, k5, k6⟩ := HS2.out.cells; clear hb))
  refine bodyPost_ret (results_ct rfl _ _ (w.heap.size + 1) 37 #[.slice none 0 0, .slice none 0 0] (0, 0) _ rfl (blk_set (blk_set HS2.out.res 0 _) 1 _) Try.underlying37 rfl (by kernel_rfl)) rfl ?_
  exact ⟨rfl, (HS2.out.bel.setCell (p := ⟨w.heap.size + 1, 0, none⟩) (by simp) _).setCell (p := ⟨w.heap.size + 1, 1, none⟩) (by simp) _⟩

set_option maxRecDepth 100000 in
set_option maxHeartbeats 2000000 in
theorem bad3 (A1 : Option Addr) (c1 : Nat) (bs : List Int) (A2 : Option Addr) (c2 : Nat) (ss : List Int) (node boot seq : Int) (w : World) (hr1 : Kd.C KI w A1 bs.length bs) (hc1 : bs.length ≤ c1) (hr2 : Kd.C KI w A2 ss.length ss) (hc2 : ss.length ≤ c2) (h1 : hrdB bs ss = true) (h2 : 0 ≤ node ∧ node < (bs.length : Int)) (h3 : boot < 1) :
    Calls Try.prog 26 #[.agg #[.slice A1 bs.length c1, .slice A2 ss.length c2], .int .i64 node, .int .i64 boot, .int .i64 seq] w fun e w' => e = .returned (.tuple #[.agg #[.slice none 0 0, .slice none 0 0], .int .i64 0]) ∧ Below w.heap.size w w' := by
  have HS0 := Aside0.mk (St.start (.slice A1 bs.length c1) (.slice A2 ss.length c2) w)
  have HOK := Aside0.mk (ok_any A1 c1 bs A2 c2 ss w hr1 hc1 hr2 hc2)
  have HPL := Aside0.mk (has_any node (bs.length : Int))
  rw [h1] at HOK
  rw [decide_eq_true h2] at HPL
  obtain ⟨n1, hn1⟩ : ∃ n, n = bs.length := ⟨_, rfl⟩
  obtain ⟨n2, hn2⟩ : ∃ n, n = ss.length := ⟨_, rfl⟩
  rw [← hn1] at HS0 HOK HPL ⊢
  rw [← hn2] at HS0 HOK ⊢
  have j3 : decide (boot < 1) = true := decide_eq_true h3
  clear hr1 hc1 hr2 hc2 hn1 hn2 h1 h2 h3
  go_enter Try.func26, Try.ntmps26
  go_wp2_with (first | (go_at_call 29; with_reducible refine (HOK.out _ HS0.out.bel).mono ?_; rintro e w1 ⟨rfl, hb⟩; have HS1 := Aside0.mk (HS0.out.next hb); obtain ⟨k0, k1, k2, k3, k4, k5, k6⟩ := HS1.out.cells; clear hb) | (go_at_call 54; with_reducible refine (HPL.out _).mono ?_; rintro e w2 ⟨rfl, hb⟩; have HS2 := Aside0.mk (HS1.out.next hb); clear k0 k1 k2 k3 k4 k5 k6; obtain ⟨k0, k1, k2, k3, k4, k5, k6⟩ := HS2.out.cells; clear hb))
  refine bodyPost_ret (results_ct rfl _ _ (w.heap.size + 1) 37 #[.slice none 0 0, .slice none 0 0] (0, 0) _ rfl (blk_set (blk_set HS2.out.res 0 _) 1 _) Try.underlying37 rfl (by kernel_rfl)) rfl ?_
  exact ⟨rfl, (HS2.out.bel.setCell (p := ⟨w.heap.size + 1, 0, none⟩) (by simp) _).setCell (p := ⟨w.heap.size + 1, 1, none⟩) (by simp) _⟩

set_option maxRecDepth 100000 in
set_option maxHeartbeats 2000000 in
theorem bad4 (A1 : Option Addr) (c1 : Nat) (bs : List Int) (A2 : Option Addr) (c2 : Nat) (ss : List Int) (node boot seq : Int) (w : World) (hr1 : Kd.C KI w A1 bs.length bs) (hc1 : bs.length ≤ c1) (hr2 : Kd.C KI w A2 ss.length ss) (hc2 : ss.length ≤ c2) (h1 : hrdB bs ss = true) (h2 : 0 ≤ node ∧ node < (bs.length : Int)) (h3 : boot > 60000) :
    Calls Try.prog 26 #[.agg #[.slice A1 bs.length c1, .slice A2 ss.length c2], .int .i64 node, .int .i64 boot, .int .i64 seq] w fun e w' => e = .returned (.tuple #[.agg #[.slice none 0 0, .slice none 0 0], .int .i64 0]) ∧ Below w.heap.size w w' := by
  have HS0 := Aside0.mk (St.start (.slice A1 bs.length c1) (.slice A2 ss.length c2) w)
  have HOK := Aside0.mk (ok_any A1 c1 bs A2 c2 ss w hr1 hc1 hr2 hc2)
  have HPL := Aside0.mk (has_any node (bs.length : Int))
  rw [h1] at HOK
  rw [decide_eq_true h2] at HPL
  obtain ⟨n1, hn1⟩ : ∃ n, n = bs.length := ⟨_, rfl⟩
  obtain ⟨n2, hn2⟩ : ∃ n, n = ss.length := ⟨_, rfl⟩
  rw [← hn1] at HS0 HOK HPL ⊢
  rw [← hn2] at HS0 HOK ⊢
  have j3 : decide (boot < 1) = false := decide_eq_false (by omega)
  have j4 : decide (boot > 60000) = true := decide_eq_true h3
  clear hr1 hc1 hr2 hc2 hn1 hn2 h1 h2 h3
  go_enter Try.func26, Try.ntmps26
  go_wp2_with (first | (go_at_call 29; with_reducible refine (HOK.out _ HS0.out.bel).mono ?_; rintro e w1 ⟨rfl, hb⟩; have HS1 := Aside0.mk (HS0.out.next hb); obtain ⟨k0, k1, k2, k3, k4, k5, k6⟩ := HS1.out.cells; clear hb) | (go_at_call 54; with_reducible refine (HPL.out _).mono ?_; rintro e w2 ⟨rfl, hb⟩; have HS2 := Aside0.mk (HS1.out.next hb); clear k0 k1 k2 k3 k4 k5 k6; obtain ⟨k0, k1, k2, k3, k4, k5, k6⟩ := HS2.out.cells; clear hb))
  refine bodyPost_ret (results_ct rfl _ _ (w.heap.size + 1) 37 #[.slice none 0 0, .slice none 0 0] (0, 0) _ rfl (blk_set (blk_set HS2.out.res 0 _) 1 _) Try.underlying37 rfl (by kernel_rfl)) rfl ?_
  exact ⟨rfl, (HS2.out.bel.setCell (p := ⟨w.heap.size + 1, 0, none⟩) (by simp) _).setCell (p := ⟨w.heap.size + 1, 1, none⟩) (by simp) _⟩

set_option maxRecDepth 100000 in
set_option maxHeartbeats 2000000 in
theorem bad5 (A1 : Option Addr) (c1 : Nat) (bs : List Int) (A2 : Option Addr) (c2 : Nat) (ss : List Int) (node boot seq : Int) (w : World) (hr1 : Kd.C KI w A1 bs.length bs) (hc1 : bs.length ≤ c1) (hr2 : Kd.C KI w A2 ss.length ss) (hc2 : ss.length ≤ c2) (h1 : hrdB bs ss = true) (h2 : 0 ≤ node ∧ node < (bs.length : Int)) (h3 : 1 ≤ boot ∧ boot ≤ 60000) (h4 : seq < 0) :
    Calls Try.prog 26 #[.agg #[.slice A1 bs.length c1, .slice A2 ss.length c2], .int .i64 node, .int .i64 boot, .int .i64 seq] w fun e w' => e = .returned (.tuple #[.agg #[.slice none 0 0, .slice none 0 0], .int .i64 0]) ∧ Below w.heap.size w w' := by
  have HS0 := Aside0.mk (St.start (.slice A1 bs.length c1) (.slice A2 ss.length c2) w)
  have HOK := Aside0.mk (ok_any A1 c1 bs A2 c2 ss w hr1 hc1 hr2 hc2)
  have HPL := Aside0.mk (has_any node (bs.length : Int))
  rw [h1] at HOK
  rw [decide_eq_true h2] at HPL
  obtain ⟨n1, hn1⟩ : ∃ n, n = bs.length := ⟨_, rfl⟩
  obtain ⟨n2, hn2⟩ : ∃ n, n = ss.length := ⟨_, rfl⟩
  rw [← hn1] at HS0 HOK HPL ⊢
  rw [← hn2] at HS0 HOK ⊢
  have j3 : decide (boot < 1) = false := decide_eq_false (by omega)
  have j4 : decide (boot > 60000) = false := decide_eq_false (by omega)
  have j5 : decide (seq < 0) = true := decide_eq_true h4
  clear hr1 hc1 hr2 hc2 hn1 hn2 h1 h2 h3 h4
  go_enter Try.func26, Try.ntmps26
  go_wp2_with (first | (go_at_call 29; with_reducible refine (HOK.out _ HS0.out.bel).mono ?_; rintro e w1 ⟨rfl, hb⟩; have HS1 := Aside0.mk (HS0.out.next hb); obtain ⟨k0, k1, k2, k3, k4, k5, k6⟩ := HS1.out.cells; clear hb) | (go_at_call 54; with_reducible refine (HPL.out _).mono ?_; rintro e w2 ⟨rfl, hb⟩; have HS2 := Aside0.mk (HS1.out.next hb); clear k0 k1 k2 k3 k4 k5 k6; obtain ⟨k0, k1, k2, k3, k4, k5, k6⟩ := HS2.out.cells; clear hb))
  refine bodyPost_ret (results_ct rfl _ _ (w.heap.size + 1) 37 #[.slice none 0 0, .slice none 0 0] (0, 0) _ rfl (blk_set (blk_set HS2.out.res 0 _) 1 _) Try.underlying37 rfl (by kernel_rfl)) rfl ?_
  exact ⟨rfl, (HS2.out.bel.setCell (p := ⟨w.heap.size + 1, 0, none⟩) (by simp) _).setCell (p := ⟨w.heap.size + 1, 1, none⟩) (by simp) _⟩

set_option maxRecDepth 100000 in
set_option maxHeartbeats 2000000 in
theorem bad6 (A1 : Option Addr) (c1 : Nat) (bs : List Int) (A2 : Option Addr) (c2 : Nat) (ss : List Int) (node boot seq : Int) (w : World) (hr1 : Kd.C KI w A1 bs.length bs) (hc1 : bs.length ≤ c1) (hr2 : Kd.C KI w A2 ss.length ss) (hc2 : ss.length ≤ c2) (h1 : hrdB bs ss = true) (h2 : 0 ≤ node ∧ node < (bs.length : Int)) (h3 : 1 ≤ boot ∧ boot ≤ 60000) (h4 : seq > 60000) :
    Calls Try.prog 26 #[.agg #[.slice A1 bs.length c1, .slice A2 ss.length c2], .int .i64 node, .int .i64 boot, .int .i64 seq] w fun e w' => e = .returned (.tuple #[.agg #[.slice none 0 0, .slice none 0 0], .int .i64 0]) ∧ Below w.heap.size w w' := by
  have HS0 := Aside0.mk (St.start (.slice A1 bs.length c1) (.slice A2 ss.length c2) w)
  have HOK := Aside0.mk (ok_any A1 c1 bs A2 c2 ss w hr1 hc1 hr2 hc2)
  have HPL := Aside0.mk (has_any node (bs.length : Int))
  rw [h1] at HOK
  rw [decide_eq_true h2] at HPL
  obtain ⟨n1, hn1⟩ : ∃ n, n = bs.length := ⟨_, rfl⟩
  obtain ⟨n2, hn2⟩ : ∃ n, n = ss.length := ⟨_, rfl⟩
  rw [← hn1] at HS0 HOK HPL ⊢
  rw [← hn2] at HS0 HOK ⊢
  have j3 : decide (boot < 1) = false := decide_eq_false (by omega)
  have j4 : decide (boot > 60000) = false := decide_eq_false (by omega)
  have j5 : decide (seq < 0) = false := decide_eq_false (by omega)
  have j6 : decide (seq > 60000) = true := decide_eq_true h4
  clear hr1 hc1 hr2 hc2 hn1 hn2 h1 h2 h3 h4
  go_enter Try.func26, Try.ntmps26
  go_wp2_with (first | (go_at_call 29; with_reducible refine (HOK.out _ HS0.out.bel).mono ?_; rintro e w1 ⟨rfl, hb⟩; have HS1 := Aside0.mk (HS0.out.next hb); obtain ⟨k0, k1, k2, k3, k4, k5, k6⟩ := HS1.out.cells; clear hb) | (go_at_call 54; with_reducible refine (HPL.out _).mono ?_; rintro e w2 ⟨rfl, hb⟩; have HS2 := Aside0.mk (HS1.out.next hb); clear k0 k1 k2 k3 k4 k5 k6; obtain ⟨k0, k1, k2, k3, k4, k5, k6⟩ := HS2.out.cells; clear hb))
  refine bodyPost_ret (results_ct rfl _ _ (w.heap.size + 1) 37 #[.slice none 0 0, .slice none 0 0] (0, 0) _ rfl (blk_set (blk_set HS2.out.res 0 _) 1 _) Try.underlying37 rfl (by kernel_rfl)) rfl ?_
  exact ⟨rfl, (HS2.out.bel.setCell (p := ⟨w.heap.size + 1, 0, none⟩) (by simp) _).setCell (p := ⟨w.heap.size + 1, 1, none⟩) (by simp) _⟩

theorem look_at {w : World} {b : Nat} {L : List (Int × Int)} {i : Nat} {x y : Int} (h : DM w b L) (hL : L.length ≤ 4) (hi : i < L.length) (hx : L[i]? = some (x, y)) : (Instr.lookup 77 (.map (some b)) (.agg #[.int .i64 (i : Int)]) false).run Try.prog w = .ok (.agg #[.int .i64 x, .int .i64 y]) w := by
  have h1 := DM.look h hL i hi
  rw [List.getElem?_eq_getElem hi] at hx
  rw [Option.some.inj hx] at h1
  exact h1
theorem put_at {w : World} {b : Nat} {L : List (Int × Int)} {i : Nat} (h : DM w b L) (hL : L.length ≤ 4) (hi : i < L.length) (x y : Int) : ∃ w', (Instr.mapUpdate 77 (.map (some b)) (.agg #[.int .i64 (i : Int)]) (.agg #[.int .i64 x, .int .i64 y])).run Try.prog w = .ok () w' ∧ DM w' b (L.set i (x, y)) ∧ w.grownBy w' (some b) := DM.put_old h hL i hi (x, y)

set_option maxRecDepth 100000 in
set_option maxHeartbeats 2000000 in
theorem good1 (A1 : Option Addr) (c1 : Nat) (bs : List Int) (A2 : Option Addr) (c2 : Nat) (ss : List Int) (i : Nat) (boot seq : Int) (w : World) (hr1 : Kd.C KI w A1 bs.length bs) (hc1 : bs.length ≤ c1) (hr2 : Kd.C KI w A2 ss.length ss) (hc2 : ss.length ≤ c2) (h1 : hrdB bs ss = true) (hi : i < bs.length) (h3 : 1 ≤ boot ∧ boot ≤ 60000) (h4 : 0 ≤ seq ∧ seq ≤ 60000) (x y : Int) (hxy : (bs.zip ss)[i]? = some (x, y)) (h5 : boot > x) :
    Calls Try.prog 26 #[.agg #[.slice A1 bs.length c1, .slice A2 ss.length c2], .int .i64 (i : Int), .int .i64 boot, .int .i64 seq] w fun e w' => ∃ v1 v2, e = .returned (.tuple #[.agg #[v1, v2], .int .i64 1]) ∧ Kd.R KI 3 w' w.heap.size (fun q => some q ≠ v2.ownBlock) v1 (((bs.zip ss).set i (boot, seq)).map Prod.fst) ∧ Kd.R KI 3 w' w.heap.size (fun q => some q ≠ v1.ownBlock) v2 (((bs.zip ss).set i (boot, seq)).map Prod.snd) ∧ Below w.heap.size w w' := by
  obtain ⟨_, hb4, hss⟩ := hrd_lens h1
  have HS0 := Aside0.mk (St.start (.slice A1 bs.length c1) (.slice A2 ss.length c2) w)
  have HOK := Aside0.mk (ok_any A1 c1 bs A2 c2 ss w hr1 hc1 hr2 hc2)
  have HPL := Aside0.mk (has_any (i : Int) (bs.length : Int))
  rw [h1] at HOK
  rw [decide_eq_true (show 0 ≤ (i : Int) ∧ (i : Int) < (bs.length : Int) by omega)] at HPL
  have HOP := Aside0.mk (fun W (hB : Below w.heap.size w W) => open_any A1 c1 bs A2 c2 ss W (Kd.C_below hr1 hB) (by rw [← hss]; exact Kd.C_below hr2 hB) hb4)
  have HLEN := Aside0.mk (show (bs.zip ss).length ≤ 4 ∧ i < (bs.zip ss).length by simp [hss]; omega)
  have HXY := Aside0.mk hxy
  rw [hss] at HS0 HOK ⊢
  obtain ⟨n, hn⟩ : ∃ n, n = bs.length := ⟨_, rfl⟩
  rw [← hn] at HS0 HOK HPL HOP ⊢
  have j3 : decide (boot < 1) = false := decide_eq_false (by omega)
  have j4 : decide (boot > 60000) = false := decide_eq_false (by omega)
  have j5 : decide (seq < 0) = false := decide_eq_false (by omega)
  have j6 : decide (seq > 60000) = false := decide_eq_false (by omega)
  have j7 : decide (boot > x) = true := decide_eq_true h5
  clear h5
  obtain ⟨a0, hlA'⟩ : ∃ a, a = (((bs.zip ss).set i (boot, seq)).map Prod.fst).length := ⟨_, rfl⟩
  obtain ⟨b0, hlB'⟩ : ∃ a, a = (((bs.zip ss).set i (boot, seq)).map Prod.snd).length := ⟨_, rfl⟩
  have HLA := Aside0.mk hlA'.symm
  have HLB := Aside0.mk hlB'.symm
  clear hlA' hlB'
  clear hr1 hc1 hr2 hc2 hn h1 hi h3 h4 hb4 hss hxy
  go_enter Try.func26, Try.ntmps26
  go_wp2_with (first | (go_at_call 29; with_reducible refine (HOK.out _ HS0.out.bel).mono ?_; rintro e w1 ⟨rfl, hb⟩; have HS1 := Aside0.mk (HS0.out.next hb); obtain ⟨k0, k1, k2, k3, k4, k5, k6⟩ := HS1.out.cells; clear hb) | (go_at_call 54; with_reducible refine (HPL.out _).mono ?_; rintro e w2 ⟨rfl, hb⟩; have HS2 := Aside0.mk (HS1.out.next hb); clear k0 k1 k2 k3 k4 k5 k6; obtain ⟨k0, k1, k2, k3, k4, k5, k6⟩ := HS2.out.cells; clear hb) | (go_at_call 55; with_reducible refine (HOP.out _ HS2.out.bel).mono ?_; rintro e w3 ⟨rfl, hD, hb⟩; have HS3 := Aside0.mk (HS2.out.next hb); have hbE := below_alloc (Below.refl w3.heap.size w3) (.cells #[.int .i64 x, .int .i64 y] 80); have HS4 := Aside0.mk (HS3.out.next hbE); have D4 := Aside0.mk (DM.below hD hbE); have LM := Aside0.mk (show w.heap.size + 1 < w2.heap.size + 1 by omega); have hlook := look_at hD HLEN.out.1 HLEN.out.2 HXY.out; obtain ⟨w5, hput, hD5, hg5⟩ := put_at D4.out HLEN.out.1 HLEN.out.2 boot seq; have HS5 := Aside0.mk (HS4.out.grown hg5 LM.out); have D5 := Aside0.mk hD5; clear hD5 hg5; clear k0 k1 k2 k3 k4 k5 k6; obtain ⟨k0, k1, k2, k3, k4, k5, k6⟩ := HS3.out.cells; clear hb hbE hD) | (go_at_call 56; with_reducible refine (shut_any (w2.heap.size + 1) ((bs.zip ss).set i (boot, seq)) _ D5.out (by have := HLEN.out.1; simpa using this)).mono ?_; rintro e w6 ⟨v1, v2, rfl, hr1, hr2, hb⟩; obtain ⟨B1, f1, e1⟩ := Kd.R_slice hr1; obtain ⟨B2, f2, e2⟩ := Kd.R_slice hr2; rw [HLA.out] at e1; rw [HLB.out] at e2; subst e1; subst e2; have HS6 := Aside0.mk (HS5.out.next hb); have R1 := Aside0.mk (Kd.R_lower hr1 HS5.out.bel.size); have R2 := Aside0.mk (Kd.R_lower hr2 HS5.out.bel.size); skip; clear k0 k1 k2 k3 k4 k5 k6; obtain ⟨k0, k1, k2, k3, k4, k5, k6⟩ := HS6.out.cells; clear hr1 hr2 hb))
  refine bodyPost_ret (results_ct rfl _ _ (w.heap.size + 1) 37 #[.slice B1 a0 f1, .slice B2 b0 f2] (0, 0) _ rfl (blk_set (blk_set HS6.out.res 0 _) 1 _) Try.underlying37 rfl (by kernel_rfl)) rfl ?_
  exact ⟨_, _, rfl, Kd.R_set (Kd.R_set R1.out HS6.out.res noBook 0 _) (blk_set HS6.out.res 0 _) noBook 1 _, Kd.R_set (Kd.R_set R2.out HS6.out.res noBook 0 _) (blk_set HS6.out.res 0 _) noBook 1 _, (HS6.out.bel.setCell (p := ⟨w.heap.size + 1, 0, none⟩) (by simp) _).setCell (p := ⟨w.heap.size + 1, 1, none⟩) (by simp) _⟩

set_option maxRecDepth 100000 in
set_option maxHeartbeats 2000000 in
theorem good2 (A1 : Option Addr) (c1 : Nat) (bs : List Int) (A2 : Option Addr) (c2 : Nat) (ss : List Int) (i : Nat) (boot seq : Int) (w : World) (hr1 : Kd.C KI w A1 bs.length bs) (hc1 : bs.length ≤ c1) (hr2 : Kd.C KI w A2 ss.length ss) (hc2 : ss.length ≤ c2) (h1 : hrdB bs ss = true) (hi : i < bs.length) (h3 : 1 ≤ boot ∧ boot ≤ 60000) (h4 : 0 ≤ seq ∧ seq ≤ 60000) (x y : Int) (hxy : (bs.zip ss)[i]? = some (x, y)) (h5 : boot = x) (h6 : seq > y) :
    Calls Try.prog 26 #[.agg #[.slice A1 bs.length c1, .slice A2 ss.length c2], .int .i64 (i : Int), .int .i64 boot, .int .i64 seq] w fun e w' => ∃ v1 v2, e = .returned (.tuple #[.agg #[v1, v2], .int .i64 2]) ∧ Kd.R KI 3 w' w.heap.size (fun q => some q ≠ v2.ownBlock) v1 (((bs.zip ss).set i (boot, seq)).map Prod.fst) ∧ Kd.R KI 3 w' w.heap.size (fun q => some q ≠ v1.ownBlock) v2 (((bs.zip ss).set i (boot, seq)).map Prod.snd) ∧ Below w.heap.size w w' := by
  obtain ⟨_, hb4, hss⟩ := hrd_lens h1
  have HS0 := Aside0.mk (St.start (.slice A1 bs.length c1) (.slice A2 ss.length c2) w)
  have HOK := Aside0.mk (ok_any A1 c1 bs A2 c2 ss w hr1 hc1 hr2 hc2)
  have HPL := Aside0.mk (has_any (i : Int) (bs.length : Int))
  rw [h1] at HOK
  rw [decide_eq_true (show 0 ≤ (i : Int) ∧ (i : Int) < (bs.length : Int) by omega)] at HPL
  have HOP := Aside0.mk (fun W (hB : Below w.heap.size w W) => open_any A1 c1 bs A2 c2 ss W (Kd.C_below hr1 hB) (by rw [← hss]; exact Kd.C_below hr2 hB) hb4)
  have HLEN := Aside0.mk (show (bs.zip ss).length ≤ 4 ∧ i < (bs.zip ss).length by simp [hss]; omega)
  have HXY := Aside0.mk hxy
  rw [hss] at HS0 HOK ⊢
  obtain ⟨n, hn⟩ : ∃ n, n = bs.length := ⟨_, rfl⟩
  rw [← hn] at HS0 HOK HPL HOP ⊢
  have j3 : decide (boot < 1) = false := decide_eq_false (by omega)
  have j4 : decide (boot > 60000) = false := decide_eq_false (by omega)
  have j5 : decide (seq < 0) = false := decide_eq_false (by omega)
  have j6 : decide (seq > 60000) = false := decide_eq_false (by omega)
  have j7 : decide (boot > x) = false := decide_eq_false (by omega)
  have j8 : (boot == x) = true := beq_iff_eq.mpr h5
  have j9 : decide (seq > y) = true := decide_eq_true h6
  clear h5 h6
  obtain ⟨a0, hlA'⟩ : ∃ a, a = (((bs.zip ss).set i (boot, seq)).map Prod.fst).length := ⟨_, rfl⟩
  obtain ⟨b0, hlB'⟩ : ∃ a, a = (((bs.zip ss).set i (boot, seq)).map Prod.snd).length := ⟨_, rfl⟩
  have HLA := Aside0.mk hlA'.symm
  have HLB := Aside0.mk hlB'.symm
  clear hlA' hlB'
  clear hr1 hc1 hr2 hc2 hn h1 hi h3 h4 hb4 hss hxy
  go_enter Try.func26, Try.ntmps26
  go_wp2_with (first | (go_at_call 29; with_reducible refine (HOK.out _ HS0.out.bel).mono ?_; rintro e w1 ⟨rfl, hb⟩; have HS1 := Aside0.mk (HS0.out.next hb); obtain ⟨k0, k1, k2, k3, k4, k5, k6⟩ := HS1.out.cells; clear hb) | (go_at_call 54; with_reducible refine (HPL.out _).mono ?_; rintro e w2 ⟨rfl, hb⟩; have HS2 := Aside0.mk (HS1.out.next hb); clear k0 k1 k2 k3 k4 k5 k6; obtain ⟨k0, k1, k2, k3, k4, k5, k6⟩ := HS2.out.cells; clear hb) | (go_at_call 55; with_reducible refine (HOP.out _ HS2.out.bel).mono ?_; rintro e w3 ⟨rfl, hD, hb⟩; have HS3 := Aside0.mk (HS2.out.next hb); have hbE := below_alloc (Below.refl w3.heap.size w3) (.cells #[.int .i64 x, .int .i64 y] 80); have HS4 := Aside0.mk (HS3.out.next hbE); have D4 := Aside0.mk (DM.below hD hbE); have LM := Aside0.mk (show w.heap.size + 1 < w2.heap.size + 1 by omega); have hlook := look_at hD HLEN.out.1 HLEN.out.2 HXY.out; obtain ⟨w5, hput, hD5, hg5⟩ := put_at D4.out HLEN.out.1 HLEN.out.2 boot seq; have HS5 := Aside0.mk (HS4.out.grown hg5 LM.out); have D5 := Aside0.mk hD5; clear hD5 hg5; clear k0 k1 k2 k3 k4 k5 k6; obtain ⟨k0, k1, k2, k3, k4, k5, k6⟩ := HS3.out.cells; clear hb hbE hD) | (go_at_call 56; with_reducible refine (shut_any (w2.heap.size + 1) ((bs.zip ss).set i (boot, seq)) _ D5.out (by have := HLEN.out.1; simpa using this)).mono ?_; rintro e w6 ⟨v1, v2, rfl, hr1, hr2, hb⟩; obtain ⟨B1, f1, e1⟩ := Kd.R_slice hr1; obtain ⟨B2, f2, e2⟩ := Kd.R_slice hr2; rw [HLA.out] at e1; rw [HLB.out] at e2; subst e1; subst e2; have HS6 := Aside0.mk (HS5.out.next hb); have R1 := Aside0.mk (Kd.R_lower hr1 HS5.out.bel.size); have R2 := Aside0.mk (Kd.R_lower hr2 HS5.out.bel.size); skip; clear k0 k1 k2 k3 k4 k5 k6; obtain ⟨k0, k1, k2, k3, k4, k5, k6⟩ := HS6.out.cells; clear hr1 hr2 hb))
  refine bodyPost_ret (results_ct rfl _ _ (w.heap.size + 1) 37 #[.slice B1 a0 f1, .slice B2 b0 f2] (0, 0) _ rfl (blk_set (blk_set HS6.out.res 0 _) 1 _) Try.underlying37 rfl (by kernel_rfl)) rfl ?_
  exact ⟨_, _, rfl, Kd.R_set (Kd.R_set R1.out HS6.out.res noBook 0 _) (blk_set HS6.out.res 0 _) noBook 1 _, Kd.R_set (Kd.R_set R2.out HS6.out.res noBook 0 _) (blk_set HS6.out.res 0 _) noBook 1 _, (HS6.out.bel.setCell (p := ⟨w.heap.size + 1, 0, none⟩) (by simp) _).setCell (p := ⟨w.heap.size + 1, 1, none⟩) (by simp) _⟩

set_option maxRecDepth 100000 in
set_option maxHeartbeats 2000000 in
theorem good3a (A1 : Option Addr) (c1 : Nat) (bs : List Int) (A2 : Option Addr) (c2 : Nat) (ss : List Int) (i : Nat) (boot seq : Int) (w : World) (hr1 : Kd.C KI w A1 bs.length bs) (hc1 : bs.length ≤ c1) (hr2 : Kd.C KI w A2 ss.length ss) (hc2 : ss.length ≤ c2) (h1 : hrdB bs ss = true) (hi : i < bs.length) (h3 : 1 ≤ boot ∧ boot ≤ 60000) (h4 : 0 ≤ seq ∧ seq ≤ 60000) (x y : Int) (hxy : (bs.zip ss)[i]? = some (x, y)) (h5 : boot < x) :
    Calls Try.prog 26 #[.agg #[.slice A1 bs.length c1, .slice A2 ss.length c2], .int .i64 (i : Int), .int .i64 boot, .int .i64 seq] w fun e w' => ∃ v1 v2, e = .returned (.tuple #[.agg #[v1, v2], .int .i64 3]) ∧ Kd.R KI 3 w' w.heap.size (fun q => some q ≠ v2.ownBlock) v1 ((bs.zip ss).map Prod.fst) ∧ Kd.R KI 3 w' w.heap.size (fun q => some q ≠ v1.ownBlock) v2 ((bs.zip ss).map Prod.snd) ∧ Below w.heap.size w w' := by
  obtain ⟨_, hb4, hss⟩ := hrd_lens h1
  have HS0 := Aside0.mk (St.start (.slice A1 bs.length c1) (.slice A2 ss.length c2) w)
  have HOK := Aside0.mk (ok_any A1 c1 bs A2 c2 ss w hr1 hc1 hr2 hc2)
  have HPL := Aside0.mk (has_any (i : Int) (bs.length : Int))
  rw [h1] at HOK
  rw [decide_eq_true (show 0 ≤ (i : Int) ∧ (i : Int) < (bs.length : Int) by omega)] at HPL
  have HOP := Aside0.mk (fun W (hB : Below w.heap.size w W) => open_any A1 c1 bs A2 c2 ss W (Kd.C_below hr1 hB) (by rw [← hss]; exact Kd.C_below hr2 hB) hb4)
  have HLEN := Aside0.mk (show (bs.zip ss).length ≤ 4 ∧ i < (bs.zip ss).length by simp [hss]; omega)
  have HXY := Aside0.mk hxy
  rw [hss] at HS0 HOK ⊢
  obtain ⟨n, hn⟩ : ∃ n, n = bs.length := ⟨_, rfl⟩
  rw [← hn] at HS0 HOK HPL HOP ⊢
  have j3 : decide (boot < 1) = false := decide_eq_false (by omega)
  have j4 : decide (boot > 60000) = false := decide_eq_false (by omega)
  have j5 : decide (seq < 0) = false := decide_eq_false (by omega)
  have j6 : decide (seq > 60000) = false := decide_eq_false (by omega)
  have j7 : decide (boot > x) = false := decide_eq_false (by omega)
  have j8 : (boot == x) = false := beq_eq_false_iff_ne.mpr (by omega)
  clear h5
  obtain ⟨a0, hlA'⟩ : ∃ a, a = ((bs.zip ss).map Prod.fst).length := ⟨_, rfl⟩
  obtain ⟨b0, hlB'⟩ : ∃ a, a = ((bs.zip ss).map Prod.snd).length := ⟨_, rfl⟩
  have HLA := Aside0.mk hlA'.symm
  have HLB := Aside0.mk hlB'.symm
  clear hlA' hlB'
  clear hr1 hc1 hr2 hc2 hn h1 hi h3 h4 hb4 hss hxy
  go_enter Try.func26, Try.ntmps26
  go_wp2_with (first | (go_at_call 29; with_reducible refine (HOK.out _ HS0.out.bel).mono ?_; rintro e w1 ⟨rfl, hb⟩; have HS1 := Aside0.mk (HS0.out.next hb); obtain ⟨k0, k1, k2, k3, k4, k5, k6⟩ := HS1.out.cells; clear hb) | (go_at_call 54; with_reducible refine (HPL.out _).mono ?_; rintro e w2 ⟨rfl, hb⟩; have HS2 := Aside0.mk (HS1.out.next hb); clear k0 k1 k2 k3 k4 k5 k6; obtain ⟨k0, k1, k2, k3, k4, k5, k6⟩ := HS2.out.cells; clear hb) | (go_at_call 55; with_reducible refine (HOP.out _ HS2.out.bel).mono ?_; rintro e w3 ⟨rfl, hD, hb⟩; have HS3 := Aside0.mk (HS2.out.next hb); have hbE := below_alloc (Below.refl w3.heap.size w3) (.cells #[.int .i64 x, .int .i64 y] 80); have HS4 := Aside0.mk (HS3.out.next hbE); have D4 := Aside0.mk (DM.below hD hbE); have LM := Aside0.mk (show w.heap.size + 1 < w2.heap.size + 1 by omega); have hlook := look_at hD HLEN.out.1 HLEN.out.2 HXY.out; clear k0 k1 k2 k3 k4 k5 k6; obtain ⟨k0, k1, k2, k3, k4, k5, k6⟩ := HS3.out.cells; clear hb hbE hD) | (go_at_call 56; with_reducible refine (shut_any (w2.heap.size + 1) (bs.zip ss) _ D4.out (by have := HLEN.out.1; simpa using this)).mono ?_; rintro e w6 ⟨v1, v2, rfl, hr1, hr2, hb⟩; obtain ⟨B1, f1, e1⟩ := Kd.R_slice hr1; obtain ⟨B2, f2, e2⟩ := Kd.R_slice hr2; rw [HLA.out] at e1; rw [HLB.out] at e2; subst e1; subst e2; have HS6 := Aside0.mk (HS4.out.next hb); have R1 := Aside0.mk (Kd.R_lower hr1 HS4.out.bel.size); have R2 := Aside0.mk (Kd.R_lower hr2 HS4.out.bel.size); skip; clear k0 k1 k2 k3 k4 k5 k6; obtain ⟨k0, k1, k2, k3, k4, k5, k6⟩ := HS6.out.cells; clear hr1 hr2 hb))
  refine bodyPost_ret (results_ct rfl _ _ (w.heap.size + 1) 37 #[.slice B1 a0 f1, .slice B2 b0 f2] (0, 0) _ rfl (blk_set (blk_set HS6.out.res 0 _) 1 _) Try.underlying37 rfl (by kernel_rfl)) rfl ?_
  exact ⟨_, _, rfl, Kd.R_set (Kd.R_set R1.out HS6.out.res noBook 0 _) (blk_set HS6.out.res 0 _) noBook 1 _, Kd.R_set (Kd.R_set R2.out HS6.out.res noBook 0 _) (blk_set HS6.out.res 0 _) noBook 1 _, (HS6.out.bel.setCell (p := ⟨w.heap.size + 1, 0, none⟩) (by simp) _).setCell (p := ⟨w.heap.size + 1, 1, none⟩) (by simp) _⟩

set_option maxRecDepth 100000 in
set_option maxHeartbeats 2000000 in
theorem good3b (A1 : Option Addr) (c1 : Nat) (bs : List Int) (A2 : Option Addr) (c2 : Nat) (ss : List Int) (i : Nat) (boot seq : Int) (w : World) (hr1 : Kd.C KI w A1 bs.length bs) (hc1 : bs.length ≤ c1) (hr2 : Kd.C KI w A2 ss.length ss) (hc2 : ss.length ≤ c2) (h1 : hrdB bs ss = true) (hi : i < bs.length) (h3 : 1 ≤ boot ∧ boot ≤ 60000) (h4 : 0 ≤ seq ∧ seq ≤ 60000) (x y : Int) (hxy : (bs.zip ss)[i]? = some (x, y)) (h5 : boot = x) (h6 : ¬ seq > y) :
    Calls Try.prog 26 #[.agg #[.slice A1 bs.length c1, .slice A2 ss.length c2], .int .i64 (i : Int), .int .i64 boot, .int .i64 seq] w fun e w' => ∃ v1 v2, e = .returned (.tuple #[.agg #[v1, v2], .int .i64 3]) ∧ Kd.R KI 3 w' w.heap.size (fun q => some q ≠ v2.ownBlock) v1 ((bs.zip ss).map Prod.fst) ∧ Kd.R KI 3 w' w.heap.size (fun q => some q ≠ v1.ownBlock) v2 ((bs.zip ss).map Prod.snd) ∧ Below w.heap.size w w' := by
  obtain ⟨_, hb4, hss⟩ := hrd_lens h1
  have HS0 := Aside0.mk (St.start (.slice A1 bs.length c1) (.slice A2 ss.length c2) w)
  have HOK := Aside0.mk (ok_any A1 c1 bs A2 c2 ss w hr1 hc1 hr2 hc2)
  have HPL := Aside0.mk (has_any (i : Int) (bs.length : Int))
  rw [h1] at HOK
  rw [decide_eq_true (show 0 ≤ (i : Int) ∧ (i : Int) < (bs.length : Int) by omega)] at HPL
  have HOP := Aside0.mk (fun W (hB : Below w.heap.size w W) => open_any A1 c1 bs A2 c2 ss W (Kd.C_below hr1 hB) (by rw [← hss]; exact Kd.C_below hr2 hB) hb4)
  have HLEN := Aside0.mk (show (bs.zip ss).length ≤ 4 ∧ i < (bs.zip ss).length by simp [hss]; omega)
  have HXY := Aside0.mk hxy
  rw [hss] at HS0 HOK ⊢
  obtain ⟨n, hn⟩ : ∃ n, n = bs.length := ⟨_, rfl⟩
  rw [← hn] at HS0 HOK HPL HOP ⊢
  have j3 : decide (boot < 1) = false := decide_eq_false (by omega)
  have j4 : decide (boot > 60000) = false := decide_eq_false (by omega)
  have j5 : decide (seq < 0) = false := decide_eq_false (by omega)
  have j6 : decide (seq > 60000) = false := decide_eq_false (by omega)
  have j7 : decide (boot > x) = false := decide_eq_false (by omega)
  have j8 : (boot == x) = true := beq_iff_eq.mpr h5
  have j9 : decide (seq > y) = false := decide_eq_false h6
  clear h5 h6
  obtain ⟨a0, hlA'⟩ : ∃ a, a = ((bs.zip ss).map Prod.fst).length := ⟨_, rfl⟩
  obtain ⟨b0, hlB'⟩ : ∃ a, a = ((bs.zip ss).map Prod.snd).length := ⟨_, rfl⟩
  have HLA := Aside0.mk hlA'.symm
  have HLB := Aside0.mk hlB'.symm
  clear hlA' hlB'
  clear hr1 hc1 hr2 hc2 hn h1 hi h3 h4 hb4 hss hxy
  go_enter Try.func26, Try.ntmps26
  go_wp2_with (first | (go_at_call 29; with_reducible refine (HOK.out _ HS0.out.bel).mono ?_; rintro e w1 ⟨rfl, hb⟩; have HS1 := Aside0.mk (HS0.out.next hb); obtain ⟨k0, k1, k2, k3, k4, k5, k6⟩ := HS1.out.cells; clear hb) | (go_at_call 54; with_reducible refine (HPL.out _).mono ?_; rintro e w2 ⟨rfl, hb⟩; have HS2 := Aside0.mk (HS1.out.next hb); clear k0 k1 k2 k3 k4 k5 k6; obtain ⟨k0, k1, k2, k3, k4, k5, k6⟩ := HS2.out.cells; clear hb) | (go_at_call 55; with_reducible refine (HOP.out _ HS2.out.bel).mono ?_; rintro e w3 ⟨rfl, hD, hb⟩; have HS3 := Aside0.mk (HS2.out.next hb); have hbE := below_alloc (Below.refl w3.heap.size w3) (.cells #[.int .i64 x, .int .i64 y] 80); have HS4 := Aside0.mk (HS3.out.next hbE); have D4 := Aside0.mk (DM.below hD hbE); have LM := Aside0.mk (show w.heap.size + 1 < w2.heap.size + 1 by omega); have hlook := look_at hD HLEN.out.1 HLEN.out.2 HXY.out; clear k0 k1 k2 k3 k4 k5 k6; obtain ⟨k0, k1, k2, k3, k4, k5, k6⟩ := HS3.out.cells; clear hb hbE hD) | (go_at_call 56; with_reducible refine (shut_any (w2.heap.size + 1) (bs.zip ss) _ D4.out (by have := HLEN.out.1; simpa using this)).mono ?_; rintro e w6 ⟨v1, v2, rfl, hr1, hr2, hb⟩; obtain ⟨B1, f1, e1⟩ := Kd.R_slice hr1; obtain ⟨B2, f2, e2⟩ := Kd.R_slice hr2; rw [HLA.out] at e1; rw [HLB.out] at e2; subst e1; subst e2; have HS6 := Aside0.mk (HS4.out.next hb); have R1 := Aside0.mk (Kd.R_lower hr1 HS4.out.bel.size); have R2 := Aside0.mk (Kd.R_lower hr2 HS4.out.bel.size); skip; clear k0 k1 k2 k3 k4 k5 k6; obtain ⟨k0, k1, k2, k3, k4, k5, k6⟩ := HS6.out.cells; clear hr1 hr2 hb))
  refine bodyPost_ret (results_ct rfl _ _ (w.heap.size + 1) 37 #[.slice B1 a0 f1, .slice B2 b0 f2] (0, 0) _ rfl (blk_set (blk_set HS6.out.res 0 _) 1 _) Try.underlying37 rfl (by kernel_rfl)) rfl ?_
  exact ⟨_, _, rfl, Kd.R_set (Kd.R_set R1.out HS6.out.res noBook 0 _) (blk_set HS6.out.res 0 _) noBook 1 _, Kd.R_set (Kd.R_set R2.out HS6.out.res noBook 0 _) (blk_set HS6.out.res 0 _) noBook 1 _, (HS6.out.bel.setCell (p := ⟨w.heap.size + 1, 0, none⟩) (by simp) _).setCell (p := ⟨w.heap.size + 1, 1, none⟩) (by simp) _⟩

end Go.Proofs.YtaohaebgpbagmaaHrdHear
