/- BoxPut and BoxTake: what they answer. Conditions: bytes. -/
import Derived.Test.YtekeehhbalhfiaaBoxFill
import Derived.Test.YtekeehhbalhfiaaPl
import Derived.Deep.RegionWith
set_option linter.unusedVariables false
set_option linter.unusedSimpArgs false
namespace Go.Proofs.YtekeehhbalhfiaaBoxDo
open Go.RowKit Go.Proofs.YtekeehhbalhfiaaW.PrintWords Go.Proofs.YtekeehhbalhfiaaPl Go.Proofs.YtekeehhbalhfiaaBoxPut1 Go.Proofs.YtekeehhbalhfiaaBoxList Go.Proofs.YtekeehhbalhfiaaBoxFill Go.Proofs.Ytekeehhbalhfiaa.PBoxBase

def boxOkB (d : Int) (l : List (List Int)) : Bool := decide (1 ≤ d ∧ d ≤ 4) && (decide ((l.length : Int) ≤ d) && (List.range l.length).all fun j => decide ((rd_L1 l (j : Int)).length ≤ 8))
theorem implBoxOk_eq (d : Int) (l : List (List Int)) (hl : l.length ≤ 1048576) (k : Nat) (hk : l.length + 1 < k) : impl_BoxOk.f k d l = some (boxOkB d l) := by
  obtain ⟨k, rfl⟩ : ∃ m, k = m + 1 := ⟨k - 1, by omega⟩
  unfold impl_BoxOk.f boxOkB
  simp only [impl_BoxOk.j0]
  by_cases h1 : d < 1
  · rw [if_pos h1, if_pos trivial]
    simp [show ¬ 1 ≤ d by omega]
  · rw [if_neg h1]
    by_cases h2 : d > 4
    · rw [if_pos h2, if_pos trivial]
      simp [show ¬ d ≤ 4 by omega]
    · rw [if_neg h2, decide_eq_true (show 1 ≤ d ∧ d ≤ 4 by omega), Bool.true_and]
      by_cases h3 : (l.length : Int) > d
      · rw [decide_eq_true h3, if_pos rfl, decide_eq_false (by omega), Bool.false_and]
      · rw [decide_eq_false h3, if_neg (by simp), decide_eq_true (show (l.length : Int) ≤ d by omega), Bool.true_and]
        exact all_loop (fun k i => impl_BoxOk.l0 k l (l.length : Int) i) l.length (fun j => decide ((rd_L1 l (j : Int)).length ≤ 8)) (fun k i hi => by
          simp only [impl_BoxOk.l0, impl_BytMessage.f]
          rw [if_pos (by omega), if_pos (by omega), if_pos (by omega), wrap_nat (by omega)]
          simp only [Option.bind_some]
          by_cases c : (rd_L1 l (i : Int)).length ≤ 8
          · rw [decide_eq_true (show ((rd_L1 l (i : Int)).length : Int) ≤ 8 by omega), decide_eq_true c]
          · rw [decide_eq_false (show ¬ ((rd_L1 l (i : Int)).length : Int) ≤ 8 by omega), decide_eq_false c]) (fun k => by
          simp only [impl_BoxOk.l0]
          rw [if_neg (by omega)]) k (by omega)

theorem ring_holds (us : List Sl) (h : us.length ≤ 4) : Holds (ring us) 0 us := by
  refine ⟨rfl, rfl, fun k s hs => ?_⟩
  match us, h with
  | [], _ => simp at hs
  | [a], _ =>
    match k with
    | 0 => exact congrArg (fun o => o.map Sl.v) hs
    | k + 1 => simp at hs
  | [a, b], _ =>
    match k with
    | 0 => exact congrArg (fun o => o.map Sl.v) hs
    | 1 => exact congrArg (fun o => o.map Sl.v) hs
    | k + 2 => simp at hs
  | [a, b, c], _ =>
    match k with
    | 0 => exact congrArg (fun o => o.map Sl.v) hs
    | 1 => exact congrArg (fun o => o.map Sl.v) hs
    | 2 => exact congrArg (fun o => o.map Sl.v) hs
    | k + 3 => simp at hs
  | [a, b, c, d], _ =>
    match k with
    | 0 => exact congrArg (fun o => o.map Sl.v) hs
    | 1 => exact congrArg (fun o => o.map Sl.v) hs
    | 2 => exact congrArg (fun o => o.map Sl.v) hs
    | 3 => exact congrArg (fun o => o.map Sl.v) hs
    | k + 4 => simp at hs

/-- A new row of slices, whose elements are elder and lie apart. -/
theorem rows_S {w1 w2 : World} {base : Nat} {us : List Sl} {L : List (List Int)} {v : Value} (okj : Nat → Nat → Prop) (ok : Nat → Prop)
    (hlen : us.length = L.length) (he : ∀ k s x, us[k]? = some s → L[k]? = some x → Kd.R (Kd.int .u8) 5 w1 base (okj k) s.v x) (hap : ∀ i j b, okj i b → okj j b → i = j) (hlt : ∀ j b, okj j b → b < w1.heap.size) (hok : ∀ j b, okj j b → ok b) (hfresh : ∀ b, w1.heap.size ≤ b → ok b)
    (ho : w2.ownsRow w1.heap.size 22 1 v us.length (vals us)) (hb : Below w1.heap.size w1 w2) (hbase : base ≤ w1.heap.size) : Kd.S (Kd.slice 5 (Kd.int .u8)) 22 w2 base ok v L := by
  have h := Kd.reps_tag (d := Kd.slice 5 (Kd.int .u8)) (w := w2) (base := base) (ok := fun b => ok b ∧ some b ≠ v.ownBlock) (xs := L) (inner := vals us) okj hap (fun j b h => ⟨hok j b h, fun e => by
    have h1 := own_base ho b e.symm
    have h2 := hlt j b h
    omega⟩) (by simp [vals, Kd.slice, hlen]) (fun j x hx => by
    have hj : j < us.length := by
      rw [hlen]
      exact (List.getElem?_eq_some_iff.1 hx).1
    have e : ((vals us).drop (j * 1)).take 1 = [(us[j]).v] := by
      rw [Nat.mul_one, List.drop_eq_getElem_cons (by simpa [vals] using hj)]
      simp [vals]
    refine ⟨_, e, Kd.R_below (he j _ x (List.getElem?_eq_getElem hj) hx) hb⟩)
  obtain ⟨f, hf⟩ := h
  refine ⟨f, fun b hbk => hfresh b (own_base ho b hbk), vals us, ?_, hf⟩
  rw [List.length_zipIdx, ← hlen]
  exact own_weaken ho hbase

theorem msg_any (A : Option Addr) (n c : Nat) (w : World) (hn : n ≤ 9223372036854775807) : Calls Try.prog 31 #[.slice A n c] w fun e w' => e = .returned (.bool (decide ((n : Int) ≤ 8))) ∧ w = w' := by
  go_enter Try.func31, Try.ntmps31
  go_wp2
  go_ret
  exact ⟨rfl, rfl⟩
theorem ok_any (d : Int) (A : Option Addr) (c : Nat) (L : List (List Int)) (w : World) (hA : Kd.C (Kd.slice 5 (Kd.int .u8)) w A L.length L) (hc : L.length ≤ c) (hL : L.length ≤ 1048576) :
    Calls Try.prog 15 #[.agg #[.int .i64 d, .slice A L.length c]] w fun e w' => e = .returned (.bool (boxOkB d L)) ∧ Below w.heap.size w w' :=
  impl_BoxOk.calls (L.length + 2) d A c L _ w hA hc (implBoxOk_eq d L hL _ (by omega))
theorem full_any (d : Int) (A : Option Addr) (c : Nat) (L : List (List Int)) (w : World) (hA : Kd.C (Kd.slice 5 (Kd.int .u8)) w A L.length L) (hc : L.length ≤ c) :
    Calls Try.prog 32 #[.agg #[.int .i64 d, .slice A L.length c]] w fun e w' => e = .returned (.bool (decide ((L.length : Int) ≥ d))) ∧ Below w.heap.size w w' :=
  impl_boxFull.calls d A c L _ w hA hc rfl
theorem ok_parts {d : Int} {L : List (List Int)} (h : boxOkB d L = true) : 1 ≤ d ∧ d ≤ 4 ∧ (L.length : Int) ≤ d ∧ ∀ x ∈ L, x.length ≤ 8 := by
  unfold boxOkB at h
  rw [Bool.and_eq_true, Bool.and_eq_true, decide_eq_true_eq, decide_eq_true_eq] at h
  refine ⟨h.1.1, h.1.2, h.2.1, fun x hx => ?_⟩
  obtain ⟨i, hi, rfl⟩ := List.getElem_of_mem hx
  have := List.all_eq_true.1 h.2.2 i (List.mem_range.2 hi)
  rw [decide_eq_true_eq] at this
  have e : rd_L1 L (i : Int) = L[i] := by
    unfold rd_L1
    rw [show ((i : Int)).toNat = i from rfl, List.getD_eq_getElem?_getD, List.getElem?_eq_getElem hi]
    rfl
  rwa [e] at this

/-- What the walk knows behind each call. -/
def St (dep : Int) (A : Option Addr) (n c : Nat) (w W : World) : Prop := Below w.heap.size w W ∧ W.heap[w.heap.size]? = some (.cells #[.int .i64 dep, .slice A n c] 25 (0, 0)) ∧ W.heap[w.heap.size + 1]? = some (.cells #[.int .i64 0, .slice none 0 0] 25 (0, 0))
theorem St.start (dep : Int) (A : Option Addr) (n c : Nat) (w : World) : St dep A n c w ((w.alloc (.cells #[.int .i64 dep, .slice A n c] 25)).alloc (.cells #[.int .i64 0, .slice none 0 0] 25)) := by
  have h1 := heap_alloc_new w (.cells #[.int .i64 dep, .slice A n c] 25 (0, 0))
  have h2 := heap_alloc_new (w.alloc (.cells #[.int .i64 dep, .slice A n c] 25)) (.cells #[.int .i64 0, .slice none 0 0] 25 (0, 0))
  rw [show (w.alloc (.cells #[.int .i64 dep, .slice A n c] 25)).heap.size = w.heap.size + 1 by simp] at h2
  exact ⟨((Below.refl _ _).alloc (Nat.le_refl _) _).alloc (by simp) _, blk_alloc h1 _, h2⟩
theorem St.next {dep : Int} {A : Option Addr} {n c : Nat} {w W W1 : World} (h : St dep A n c w W) (hb : Below W.heap.size W W1) : St dep A n c w W1 :=
  ⟨h.1.trans (hb.mono h.1.size), blk_below h.2.1 hb, blk_below h.2.2 hb⟩
theorem St.size {dep : Int} {A : Option Addr} {n c : Nat} {w W : World} (h : St dep A n c w W) : w.heap.size + 1 < W.heap.size := blk_lt h.2.2
theorem St.far {dep : Int} {A : Option Addr} {n c g : Nat} {w W W1 : World} (h : St dep A n c w W) (hg : w.heap.size + 1 < g) (hb : Below g W W1) : St dep A n c w W1 :=
  ⟨h.1.trans (hb.mono (by omega)), (hb.block _ (by omega)).trans h.2.1, (hb.block _ hg).trans h.2.2⟩
theorem St.drew {dep : Int} {A : Option Addr} {n c : Nat} {w W : World} (h : St dep A n c w W) : St dep A n c w W.drew := ⟨below_drew h.1, blk_drew h.2.1, blk_drew h.2.2⟩
theorem St.cells {dep : Int} {A : Option Addr} {n c : Nat} {w W : World} (h : St dep A n c w W) : W.cell? ⟨w.heap.size, 0, none⟩ = some (.int .i64 dep) ∧ W.cell? ⟨w.heap.size, 1, none⟩ = some (.slice A n c) ∧ W.cell? ⟨w.heap.size + 1, 0, none⟩ = some (.int .i64 0) ∧ W.cell? ⟨w.heap.size + 1, 1, none⟩ = some (.slice none 0 0) ∧ W.frozen? ⟨w.heap.size + 1, 0, none⟩ = false ∧ W.frozen? ⟨w.heap.size + 1, 1, none⟩ = false :=
  ⟨blk_cell h.2.1 0, blk_cell h.2.1 1, blk_cell h.2.2 0, blk_cell h.2.2 1, blk_frozen h.2.2 0, blk_frozen h.2.2 1⟩

set_option maxRecDepth 100000 in
set_option maxHeartbeats 400000 in
theorem put_bad (dep : Int) (A : Option Addr) (c : Nat) (L : List (List Int)) (A1 : Option Addr) (c1 : Nat) (m : List Int) (w : World) (hA : Kd.C (Kd.slice 5 (Kd.int .u8)) w A L.length L) (hc : L.length ≤ c) (hL : L.length ≤ 1048576) (hM : m.length ≤ 9223372036854775807) (hbad : boxOkB dep L = false ∨ (boxOkB dep L = true ∧ 8 < m.length)) :
    Calls Try.prog 11 #[.agg #[.int .i64 dep, .slice A L.length c], .slice A1 m.length c1] w fun e w' => e = .returned (.tuple #[.agg #[.int .i64 0, .slice none 0 0], .bool false]) ∧ Below w.heap.size w w' := by
  have HS0 := Aside0.mk (St.start dep A L.length c w)
  have HOK := Aside0.mk (fun W (h : St dep A L.length c w W) => ok_any dep A c L W (Kd.C_below hA h.1) hc hL)
  have HMS := Aside0.mk (fun W => msg_any A1 m.length c1 W hM)
  obtain ⟨n, hn⟩ : ∃ n, n = L.length := ⟨_, rfl⟩
  obtain ⟨q, hq⟩ : ∃ q, q = m.length := ⟨_, rfl⟩
  have hbad' : boxOkB dep L = false ∨ (boxOkB dep L = true ∧ decide ((q : Int) ≤ 8) = false) := hbad.imp id (fun h => ⟨h.1, decide_eq_false (by omega)⟩)
  rw [← hn] at HS0 HOK ⊢
  rw [← hq] at HMS ⊢
  clear hA hc hL hM hbad hn hq
  rcases hbad' with hb | ⟨hb, hq8⟩
  · rw [hb] at HOK
    go_enter Try.func11, Try.ntmps11
    go_wp2_with (go_at_call 15; with_reducible refine (HOK.out _ HS0.out).mono ?_; rintro e w1 ⟨rfl, hb1⟩; have HS1 := Aside0.mk (HS0.out.next hb1); obtain ⟨k0, k1, k2, k3, k4, k5⟩ := HS1.out.cells; clear hb1)
    refine bodyPost_ret (results_ct rfl _ _ (w.heap.size + 1) 25 #[.int .i64 0, .slice none 0 0] (0, 0) _ rfl (blk_set (blk_set HS1.out.2.2 0 _) 1 _) Try.underlying25 rfl (by kernel_rfl)) rfl ?_
    exact ⟨rfl, (HS1.out.1.setCell (p := ⟨w.heap.size + 1, 0, none⟩) (by simp) _).setCell (p := ⟨w.heap.size + 1, 1, none⟩) (by simp) _⟩
  · rw [hb] at HOK
    rw [hq8] at HMS
    go_enter Try.func11, Try.ntmps11
    go_wp2_with (first | (go_at_call 15; with_reducible refine (HOK.out _ HS0.out).mono ?_; rintro e w1 ⟨rfl, hb1⟩; have HS1 := Aside0.mk (HS0.out.next hb1); obtain ⟨k0, k1, k2, k3, k4, k5⟩ := HS1.out.cells; clear hb1) | (go_at_call 31; refine (HMS.out _).mono ?_; rintro e w2 ⟨rfl, rfl⟩))
    refine bodyPost_ret (results_ct rfl _ _ (w.heap.size + 1) 25 #[.int .i64 0, .slice none 0 0] (0, 0) _ rfl (blk_set (blk_set HS1.out.2.2 0 _) 1 _) Try.underlying25 rfl (by kernel_rfl)) rfl ?_
    exact ⟨rfl, (HS1.out.1.setCell (p := ⟨w.heap.size + 1, 0, none⟩) (by simp) _).setCell (p := ⟨w.heap.size + 1, 1, none⟩) (by simp) _⟩

theorem rdL_nat (L : List (List Int)) (i : Nat) (h : i < L.length) : rd_L1 L (i : Int) = L[i] := by
  unfold rd_L1
  rw [show ((i : Int)).toNat = i from rfl, List.getD_eq_getElem?_getD, List.getElem?_eq_getElem h]
  rfl
theorem copyBox_eq (dep : Int) (L : List (List Int)) (h8 : ∀ x ∈ L, x.length ≤ 8) (hL : L.length ≤ 4) (k : Nat) (hk : 10 ≤ k) : impl_boxCopy.f k dep L = some (dep, L) := by
  have h : impl_boxMessages.f k L = some L := by
    unfold impl_boxMessages.f
    by_cases h0 : (L.length : Int) = 0
    · rw [if_pos h0]
      have : L = [] := List.eq_nil_of_length_eq_zero (by omega)
      rw [this]
    · rw [if_neg h0, if_pos (by omega), if_pos (by omega)]
      have e := map_loop (fun k y i => impl_boxMessages.l0 k y L (L.length : Int) i) L id (fun k y i hi hy => by
        simp only [impl_boxMessages.l0, impl_bytCopy.f]
        rw [if_pos (by omega), if_pos (by omega), if_pos (by omega), rdL_nat L i hi, if_pos (by have := h8 _ (List.getElem_mem hi); omega), Option.bind_some, if_pos (by omega), wrap_nat (by omega)]
        rfl) (fun k y hy => by
        simp only [impl_boxMessages.l0]
        rw [if_neg (by omega)]) k (List.replicate ((L.length : Int) : Int).toNat []) (by simp) (by omega)
      simpa using e
  unfold impl_boxCopy.f
  rw [h]
  rfl

set_option maxRecDepth 100000 in
set_option maxHeartbeats 1000000 in
theorem put_full (dep : Int) (A : Option Addr) (c : Nat) (L : List (List Int)) (A1 : Option Addr) (c1 : Nat) (m : List Int) (w : World) (hA : Kd.C (Kd.slice 5 (Kd.int .u8)) w A L.length L) (hc : L.length ≤ c) (hok : boxOkB dep L = true) (hm : m.length ≤ 8) (hfull : (L.length : Int) ≥ dep) :
    Calls Try.prog 11 #[.agg #[.int .i64 dep, .slice A L.length c], .slice A1 m.length c1] w fun e w' => ∃ v, e = .returned (.tuple #[.agg #[.int .i64 dep, v], .bool false]) ∧ Kd.S (Kd.slice 5 (Kd.int .u8)) 22 w' w.heap.size (fun _ => True) v L ∧ Below w.heap.size w w' := by
  obtain ⟨p1, p2, p3, p8⟩ := ok_parts hok
  have HS0 := Aside0.mk (St.start dep A L.length c w)
  have HOK := Aside0.mk (fun W (h : St dep A L.length c w W) => ok_any dep A c L W (Kd.C_below hA h.1) hc (by omega))
  have HMS := Aside0.mk (fun W => msg_any A1 m.length c1 W (by omega))
  have HFU := Aside0.mk (fun W (h : St dep A L.length c w W) => full_any dep A c L W (Kd.C_below hA h.1) hc)
  have HCP := Aside0.mk (fun W (h : St dep A L.length c w W) => impl_boxCopy.calls 10 dep A c L dep L W (Kd.C_below hA h.1) hc (copyBox_eq dep L p8 (by omega) 10 (by omega)))
  have hq8 : decide ((m.length : Int) ≤ 8) = true := decide_eq_true (by omega)
  have hf8 : decide ((L.length : Int) ≥ dep) = true := decide_eq_true hfull
  rw [hok] at HOK
  rw [hq8] at HMS
  rw [hf8] at HFU
  obtain ⟨n, hn⟩ : ∃ n, n = L.length := ⟨_, rfl⟩
  obtain ⟨q, hq⟩ : ∃ q, q = m.length := ⟨_, rfl⟩
  rw [← hn] at HS0 HOK HFU HCP ⊢
  rw [← hq] at HMS ⊢
  clear hA hc hm hn hq hok hfull p1 p2 p3 p8 hq8 hf8
  go_enter Try.func11, Try.ntmps11
  go_wp2_with (first | (go_at_call 15; with_reducible refine (HOK.out _ HS0.out).mono ?_; rintro e w1 ⟨rfl, hb1⟩; have HS1 := Aside0.mk (HS0.out.next hb1); obtain ⟨k0, k1, k2, k3, k4, k5⟩ := HS1.out.cells; clear hb1) | (go_at_call 31; refine (HMS.out _).mono ?_; rintro e w2 ⟨rfl, rfl⟩) | (go_at_call 32; refine (HFU.out _ HS1.out).mono ?_; rintro e w3 ⟨rfl, hb3⟩; have HS3 := Aside0.mk (HS1.out.next hb3); clear k0 k1 k2 k3 k4 k5; obtain ⟨k0, k1, k2, k3, k4, k5⟩ := HS3.out.cells; clear hb3) | (go_at_call 33; refine (HCP.out _ HS3.out).mono ?_; rintro e w4 ⟨v, rfl, hS, hb4⟩; obtain ⟨A5, c5, rfl⟩ := Kd.S_slice hS; have HS4 := Aside0.mk (HS3.out.next hb4); have HV := Aside0.mk (Kd.S_lower hS HS3.out.1.size); clear k0 k1 k2 k3 k4 k5; obtain ⟨k0, k1, k2, k3, k4, k5⟩ := HS4.out.cells; clear hb4 hS))
  refine bodyPost_ret (results_ct rfl _ _ (w.heap.size + 1) 25 #[.int .i64 dep, .slice A5 L.length c5] (0, 0) _ rfl (blk_set (blk_set HS4.out.2.2 0 _) 1 _) Try.underlying25 rfl (by kernel_rfl)) rfl ?_
  refine ⟨_, rfl, Kd.S_set (Kd.S_set HV.out HS4.out.2.2 ?_ 0 _) (blk_set HS4.out.2.2 0 _) ?_ 1 _, (HS4.out.1.setCell (p := ⟨w.heap.size + 1, 0, none⟩) (by simp) _).setCell (p := ⟨w.heap.size + 1, 1, none⟩) (by simp) _⟩
  all_goals
    intro q hq
    simp [Kd.slice, Kd.int, Kd.scalar] at hq
    omega

/-- The ring with one more. -/
theorem ring_more {L : List (List Int)} {g : Nat} {wf wc wp : World} {base : Nat} {us : List Sl} {T : Nat → Nat} {s : Sl} {m : List Int} {cs : Array Value} (hE : Elems T wf base us (L.take L.length)) (hb : Below wf.heap.size wf wc) (hv : Kd.R (Kd.int .u8) 5 wc wf.heap.size (fun _ => True) s.v m) (hG : wc.heap[g]? = some (.cells cs 61 (0, 0))) (hk : KeepBut wc wp g none) (hbase : base ≤ wf.heap.size) : ∃ T', Elems T' wp base (us ++ [s]) (L ++ [m]) := by
  have h := elems_step (L := L ++ [m]) (k := L.length) (s := s) (x := m) (T := T) (us := us) (base := base) (by rw [List.take_left']; simpa using hE; rfl) (by simp) (by simp) hb hv hG hk hbase
  rwa [List.take_of_length_le (by simp)] at h

set_option maxRecDepth 100000 in
set_option maxHeartbeats 1000000 in
theorem put_good (dep : Int) (A : Option Addr) (c : Nat) (L : List (List Int)) (A1 : Option Addr) (c1 : Nat) (m : List Int) (w : World) (hA : Kd.C (Kd.slice 5 (Kd.int .u8)) w A L.length L) (hc : L.length ≤ c) (hM : Kd.C (Kd.int .u8) w A1 m.length m) (hc1 : m.length ≤ c1) (hok : boxOkB dep L = true) (hm : m.length ≤ 8) (hroom : ¬ (L.length : Int) ≥ dep) :
    Calls Try.prog 11 #[.agg #[.int .i64 dep, .slice A L.length c], .slice A1 m.length c1] w fun e w' => ∃ v, e = .returned (.tuple #[.agg #[.int .i64 dep, v], .bool true]) ∧ Kd.S (Kd.slice 5 (Kd.int .u8)) 22 w' w.heap.size (fun _ => True) v (L ++ [m]) ∧ Below w.heap.size w w' := by
  obtain ⟨p1, p2, p3, p8⟩ := ok_parts hok
  have HS0 := Aside0.mk (St.start dep A L.length c w)
  have HOK := Aside0.mk (fun W (h : St dep A L.length c w W) => ok_any dep A c L W (Kd.C_below hA h.1) hc (by omega))
  have HMS := Aside0.mk (fun W => msg_any A1 m.length c1 W (by omega))
  have HFU := Aside0.mk (fun W (h : St dep A L.length c w W) => full_any dep A c L W (Kd.C_below hA h.1) hc)
  have HFI := Aside0.mk (fun W (h : St dep A L.length c w W) => fill_any dep A c L W (Kd.C_below hA h.1) hc (by omega) p8)
  have HCP := Aside0.mk (fun W (h : Below w.heap.size w W) => impl_bytCopy.calls A1 c1 m m W (Kd.C_below hM h) hc1 (if_pos (by omega)))
  have hq8 : decide ((m.length : Int) ≤ 8) = true := decide_eq_true (by omega)
  have hf8 : decide ((L.length : Int) ≥ dep) = false := decide_eq_false hroom
  rw [hok] at HOK
  rw [hq8] at HMS
  rw [hf8] at HFU
  have HL3 := Aside0.mk (show L.length ≤ 3 by omega)
  obtain ⟨n, hn⟩ : ∃ n, n = L.length := ⟨_, rfl⟩
  obtain ⟨q, hq⟩ : ∃ q, q = m.length := ⟨_, rfl⟩
  rw [← hn] at HS0 HOK HFU HFI HL3 ⊢
  rw [← hq] at HMS HCP ⊢
  have HN := Aside0.mk hn
  have HQ := Aside0.mk hq
  clear hA hc hm hM hc1 hn hq hok hroom p1 p2 p3 p8 hq8 hf8
  go_enter Try.func11, Try.ntmps11
  go_wp2_with (first | (go_at_call 15; with_reducible refine (HOK.out _ HS0.out).mono ?_; rintro e w1 ⟨rfl, hb1⟩; have HS1 := Aside0.mk (HS0.out.next hb1); obtain ⟨k0, k1, k2, k3, k4, k5⟩ := HS1.out.cells; clear hb1) | (go_at_call 31; refine (HMS.out _).mono ?_; rintro e w2 ⟨rfl, rfl⟩) | (go_at_call 32; refine (HFU.out _ HS1.out).mono ?_; rintro e w3 ⟨rfl, hb3⟩; have HS3 := Aside0.mk (HS1.out.next hb3); clear k0 k1 k2 k3 k4 k5; obtain ⟨k0, k1, k2, k3, k4, k5⟩ := HS3.out.cells; clear hb3) | (go_at_call 34; refine (HFI.out _ HS3.out).mono ?_; rintro e w4 ⟨rfl, us, T, hG, hE, hb4⟩; have HS4 := Aside0.mk (HS3.out.next hb4); have HB4 := Aside0.mk hb4; have HG := Aside0.mk hG; have HE := Aside0.mk hE; clear k0 k1 k2 k3 k4 k5; obtain ⟨k0, k1, k2, k3, k4, k5⟩ := HS4.out.cells; clear hb4 hG hE) | (go_at_call 36; refine (HCP.out _ HS4.out.1).mono ?_; rintro e w5 ⟨v, rfl, hv, hb5⟩; obtain ⟨A5, c5, rfl⟩ := Kd.R_slice hv; have HS5 := Aside0.mk (HS4.out.next hb5); have HV := Aside0.mk hv; have HB5 := Aside0.mk hb5; have HG5 := Aside0.mk (blk_below HG.out hb5); clear k0 k1 k2 k3 k4 k5; obtain ⟨k0, k1, k2, k3, k4, k5⟩ := HS5.out.cells; clear hb5 hv) | (go_at_call 35; refine (put_any (w3.heap.size + 1) us (A5, m.length, c5) (by have := HE.out.1; have := HL3.out; have := HN.out; rw [List.length_take] at *; omega) _ HG5.out).mono ?_; rintro e w6 ⟨rfl, hb6, hk6, hg6⟩; have HS6 := Aside0.mk (HS5.out.far (by have := HS3.out.size; omega) hb6); have HK6 := Aside0.mk hk6; have HG6 := Aside0.mk hg6; clear k0 k1 k2 k3 k4 k5; obtain ⟨k0, k1, k2, k3, k4, k5⟩ := HS6.out.cells; clear hb6 hk6 hg6))
  have hmore := ring_more (L := L) (s := (A5, m.length, c5)) (by have := HE.out; rw [HN.out] at this; exact this) HB5.out HV.out HG5.out HK6.out HB4.out.size
  obtain ⟨T', hT⟩ := hmore
  have HT := Aside0.mk hT
  clear hT
  have hul : (us ++ [(A5, m.length, c5)]).length ≤ 4 := by
    rw [HT.out.1, List.length_append, ← HN.out]
    have := HL3.out
    simp
    omega
  have HLI := Aside0.mk (list_any (w3.heap.size + 1) 0 (us ++ [(A5, m.length, c5)]) _ (by omega) hul w6.drew (blk_drew HG6.out) (ring_holds _ hul))
  clear hul
  go_region_with (go_at_call 37; refine HLI.out.mono ?_; rintro e w7 ⟨v, rfl, ho, hb7⟩; obtain ⟨A7, c7, rfl⟩ := own_slice ho; have HS7 := Aside0.mk (HS6.out.drew.next hb7); have HO7 := Aside0.mk ho; have HB7 := Aside0.mk hb7; clear k0 k1 k2 k3 k4 k5; obtain ⟨k0, k1, k2, k3, k4, k5⟩ := HS7.out.cells; clear hb7 ho)
  all_goals go_wp2
  all_goals have hS : Kd.S (Kd.slice 5 (Kd.int .u8)) 22 w7 w.heap.size (fun _ => True) (.slice A7 (us ++ [(A5, m.length, c5)]).length c7) (L ++ [m]) := rows_S (w1 := w6.drew) (us := us ++ [(A5, m.length, c5)]) (fun j b => T' b = j ∧ b < w6.heap.size) (fun _ => True) HT.out.1 (fun k s x hs hx => Kd.R_drew (Kd.R_lower (HT.out.2 k s x hs hx) HS3.out.1.size)) (fun i j b h1 h2 => h1.1.symm.trans h2.1) (fun j b h => h.2) (fun _ _ _ => trivial) (fun _ _ => trivial) HO7.out HB7.out HS6.out.1.size
  all_goals simp only [List.length_append, List.length_cons, List.length_nil, Nat.zero_add] at hS
  all_goals have HSS := Aside0.mk hS
  all_goals clear hS
  all_goals refine bodyPost_ret (results_ct rfl _ _ (w.heap.size + 1) 25 #[.int .i64 dep, .slice A7 (us.length + 1) c7] (0, 0) _ rfl (blk_set (blk_set HS7.out.2.2 0 _) 1 _) Try.underlying25 rfl (by kernel_rfl)) rfl ?_
  all_goals refine ⟨_, rfl, Kd.S_set (Kd.S_set HSS.out HS7.out.2.2 ?_ 0 _) (blk_set HS7.out.2.2 0 _) ?_ 1 _, (HS7.out.1.setCell (p := ⟨w.heap.size + 1, 0, none⟩) (by simp) _).setCell (p := ⟨w.heap.size + 1, 1, none⟩) (by simp) _⟩
  all_goals
    intro q hq
    simp [Kd.slice, Kd.int, Kd.scalar] at hq
    omega
end Go.Proofs.YtekeehhbalhfiaaBoxDo
