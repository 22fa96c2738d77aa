/- The walk of the law of the queue: a box gives out in order what it was given. Conditions: what memory can hold. -/
import Derived.Test.YtekeehhbalhfiaaBoxMark
import Derived.Test.YtekeehhbalhfiaaBoxTold
import Derived.Test.YtekeehhbalhfiaaPBoxQ
set_option linter.unusedVariables false
set_option linter.unusedSimpArgs false
namespace Go.Proofs.YtekeehhbalhfiaaBoxQueueLaw
open Go.RowKit Go.Proofs.YtekeehhbalhfiaaW.PrintWords Go.Proofs.YtekeehhbalhfiaaPl Go.Proofs.YtekeehhbalhfiaaBoxMark Go.Proofs.Ytekeehhbalhfiaa.PBoxQ Go.Proofs
theorem l1In_eq (a b c : Int) : spec_l1In.f a b c = some (decide (b ≤ a ∧ a ≤ c)) := by
  unfold spec_l1In.f
  by_cases h1 : b ≤ a
  · rw [if_pos h1]
    simp [h1]
  · rw [if_neg h1]
    simp [h1]
theorem caBytes_self (l : List Int) : laws_caBytes.f l l = some true := by
  unfold laws_caBytes.f
  simp
theorem rdQ_nat (l : List (List Int)) (i : Nat) (h : i < l.length) : rd_L1 l (i : Int) = l[i] := by
  simp [rd_L1, h]
theorem caItems_self (l : List (List Int)) (hl : l.length ≤ 1048576) (k : Nat) (hk : l.length < k) : laws_caItems.f k l l = some true := by
  unfold laws_caItems.f
  rw [if_pos rfl]
  exact all_loop_true (fun k i => laws_caItems.l0 k l l i) l.length (fun k i hi => by
    simp only [laws_caItems.l0]
    rw [if_pos (by omega), if_pos (by omega), if_pos (by omega), caBytes_self, Option.bind_some, if_pos rfl, wrap_nat (by omega)]) (fun k => by
    simp only [laws_caItems.l0]
    rw [if_neg (by omega)]) k hk
theorem caBox_self (d : Int) (l : List (List Int)) (hl : l.length ≤ 1048576) (k : Nat) (hk : l.length < k) : laws_caBox.f k d l d l = some true := by
  unfold laws_caBox.f
  rw [if_pos rfl, caItems_self l hl k hk]
  rfl
theorem new_any (d : Int) (h1 : 1 ≤ d) (h4 : d ≤ 4) (W : World) : Calls Try.prog 8 #[.int .i64 d] W fun e w' => ∃ A c, e = .returned (.agg #[.int .i64 d, .slice A 0 c]) ∧ Kd.S KB 22 w' W.heap.size (fun _ => True) (.slice A 0 c) [] ∧ Below W.heap.size W w' := by
  refine (impl_BoxNew.calls d d [] W (by unfold impl_BoxNew.f; rw [if_neg (by omega), if_neg (by omega)])).mono ?_
  rintro e w' ⟨v, rfl, hS, hb⟩
  obtain ⟨A, c, rfl⟩ := Kd.S_slice hS
  exact ⟨A, c, rfl, hS, hb⟩
theorem snew_any (d : Int) (h1 : 1 ≤ d) (h4 : d ≤ 4) (W : World) : Calls Try.prog 10 #[.int .i64 d] W fun e w' => ∃ A c, e = .returned (.agg #[.int .i64 d, .slice A 0 c]) ∧ Kd.S KB 22 w' W.heap.size (fun _ => True) (.slice A 0 c) [] ∧ Below W.heap.size W w' := by
  refine (spec_BoxNew.calls d d [] W (by unfold spec_BoxNew.f; rw [l1In_eq, Option.bind_some, decide_eq_true (show 1 ≤ d ∧ d ≤ 4 by omega), if_pos rfl])).mono ?_
  rintro e w' ⟨v, rfl, hS, hb⟩
  obtain ⟨A, c, rfl⟩ := Kd.S_slice hS
  exact ⟨A, c, rfl, hS, hb⟩
theorem cab_any (d : Int) (A : Option Addr) (c : Nat) (A1 : Option Addr) (c1 : Nat) (W : World) (b b1 : Nat) (P P1 : Nat → Prop) (h : Kd.S KB 22 W b P (.slice A 0 c) []) (h1 : Kd.S KB 22 W b1 P1 (.slice A1 0 c1) []) : Calls Try.prog 9 #[.agg #[.int .i64 d, .slice A 0 c], .agg #[.int .i64 d, .slice A1 0 c1]] W fun e w' => e = .returned (.bool true) ∧ Below W.heap.size W w' :=
  laws_caBox.calls 2 d A c [] d A1 c1 [] true W (Kd.S_reads' h).2.2 (Kd.S_reads' h).2.1 (Kd.S_reads' h1).2.2 (Kd.S_reads' h1).2.1 (caBox_self d [] (by simp) 2 (by simp))

theorem ok_of {d : Int} {L : List (List Int)} (h1 : 1 ≤ d) (h2 : d ≤ 4) (h3 : (L.length : Int) ≤ d) (h8 : ∀ x ∈ L, x.length ≤ 8) : YtekeehhbalhfiaaBoxDo.boxOkB d L = true := by
  unfold YtekeehhbalhfiaaBoxDo.boxOkB
  rw [Bool.and_eq_true, Bool.and_eq_true, decide_eq_true_eq, decide_eq_true_eq, List.all_eq_true]
  refine ⟨⟨h1, h2⟩, h3, fun i hi => ?_⟩
  have hi := List.mem_range.1 hi
  rw [show Ytekeehhbalhfiaa.PBoxBase.rd_L1 L (i : Int) = L[i] from rdQ_nat L i hi, decide_eq_true_eq]
  exact h8 _ (List.getElem_mem hi)
theorem infoQ : (Try.prog.info? 22).map (fun i => (i.zero, i.size, i.bytes)) = some (some (.slice none 0 0), 1, 24) := by kernel_rfl
theorem empty_Q {W : World} {N : Nat} (h : N ≤ W.heap.size) : Kd.Q KB 22 (W.alloc (.cells #[] 22)) N (fun _ => True) (.slice (some ⟨W.heap.size, 0, none⟩) 0 0) [] :=
  Kd.Q_of_R ⟨fun _ _ => trivial, [], ⟨rfl, .inr ⟨W.heap.size, 0, #[], rfl, h, heap_alloc_new W _, Nat.le_refl _, by simp, rfl, rfl⟩⟩, rfl, fun j p hj => by simp at hj⟩
/-- What the loop knows: the box in its block, what waits, and the list of what was put, all alike. -/
def QR (N g : Nat) (w : World) (d : Int) (v : Value) (wr : World) : Prop := ∃ (L : List (List Int)) (Ab : Option Addr) (cb : Nat) (P : Nat → Prop), Below N w wr ∧ wr.heap[g]? = some (.cells #[.int .i64 d, .slice Ab L.length cb] 25 (0, 0)) ∧ Ow N wr P (.slice Ab L.length cb) L ∧ Kd.Q KB 22 wr N (fun _ => True) v L ∧ (∀ k, P k → some k ≠ v.ownBlock) ∧ YtekeehhbalhfiaaBoxDo.boxOkB d L = true
theorem putQ (d : Int) (A : Option Addr) (c : Nat) (L : List (List Int)) (q : Nat) (hq : q = L.length) (A1 : Option Addr) (c1 : Nat) (m : List Int) (hm2 : m.length = 2) (W : World) (N : Nat) (P : Nat → Prop) (hO : Ow N W P (.slice A q c) L) (hM : Kd.C (Kd.int .u8) W A1 2 m) (hc1 : 2 ≤ c1) (hok : YtekeehhbalhfiaaBoxDo.boxOkB d L = true) (hN : N ≤ W.heap.size) (hroom : (q : Int) < d) :
    Calls Try.prog 11 #[.agg #[.int .i64 d, .slice A q c], .slice A1 2 c1] W fun e W' => ∃ A2 c2, e = .returned (.tuple #[.agg #[.int .i64 d, .slice A2 (q + 1) c2], .bool true]) ∧ Ow N W' (Iv (fun _ => True) W.heap.size W'.heap.size) (.slice A2 (q + 1) c2) (L ++ [m]) ∧ Below W.heap.size W W' := by
  subst hq
  have h := YtekeehhbalhfiaaBoxDo.put_good d A c L A1 c1 m W hO.C.2.2 hO.C.2.1 (by rw [hm2]; exact hM) (by omega) hok (by omega) (by omega)
  rw [hm2] at h
  refine h.mono ?_
  rintro e W' ⟨v, rfl, hS, hb⟩
  obtain ⟨A2, c2, rfl⟩ := Kd.S_slice hS
  rw [List.length_append, List.length_singleton] at hS ⊢
  exact ⟨A2, c2, rfl, Ow.new hS hN, hb⟩
theorem putF (d : Int) (A : Option Addr) (c : Nat) (L : List (List Int)) (q : Nat) (hq : q = L.length) (A1 : Option Addr) (c1 : Nat) (m : List Int) (hm2 : m.length = 2) (W : World) (N : Nat) (P : Nat → Prop) (hO : Ow N W P (.slice A q c) L) (hok : YtekeehhbalhfiaaBoxDo.boxOkB d L = true) (hN : N ≤ W.heap.size) (hroom : ¬ (q : Int) < d) :
    Calls Try.prog 11 #[.agg #[.int .i64 d, .slice A q c], .slice A1 2 c1] W fun e W' => ∃ A2 c2, e = .returned (.tuple #[.agg #[.int .i64 d, .slice A2 q c2], .bool false]) ∧ Ow N W' (Iv (fun _ => True) W.heap.size W'.heap.size) (.slice A2 q c2) L ∧ Below W.heap.size W W' := by
  subst hq
  have h := YtekeehhbalhfiaaBoxDo.put_full d A c L A1 c1 m W hO.C.2.2 hO.C.2.1 hok (by omega) (by omega)
  rw [hm2] at h
  refine h.mono ?_
  rintro e W' ⟨v, rfl, hS, hb⟩
  obtain ⟨A2, c2, rfl⟩ := Kd.S_slice hS
  exact ⟨A2, c2, rfl, Ow.new hS hN, hb⟩
theorem takeE (d : Int) (A : Option Addr) (c : Nat) (W : World) (N : Nat) (P : Nat → Prop) (hO : Ow N W P (.slice A 0 c) []) (hok : YtekeehhbalhfiaaBoxDo.boxOkB d [] = true) (hN : N ≤ W.heap.size) :
    Calls Try.prog 12 #[.agg #[.int .i64 d, .slice A 0 c]] W fun e W' => ∃ A2 c2, e = .returned (.tuple #[.agg #[.int .i64 d, .slice A2 0 c2], .slice none 0 0, .bool false]) ∧ Ow N W' (Iv (fun _ => True) W.heap.size W'.heap.size) (.slice A2 0 c2) [] ∧ Below W.heap.size W W' := by
  refine (YtekeehhbalhfiaaBoxTak.take_empty d A c W hO.C.2.2 hok).mono ?_
  rintro e W' ⟨v, rfl, hS, hb⟩
  obtain ⟨A2, c2, rfl⟩ := Kd.S_slice hS
  exact ⟨A2, c2, rfl, Ow.new hS hN, hb⟩
theorem takeG (d : Int) (A : Option Addr) (c : Nat) (x : List Int) (l : List (List Int)) (q : Nat) (hq : q = l.length) (W : World) (N : Nat) (P : Nat → Prop) (hO : Ow N W P (.slice A (q + 1) c) (x :: l)) (hok : YtekeehhbalhfiaaBoxDo.boxOkB d (x :: l) = true) (hN : N ≤ W.heap.size) :
    Calls Try.prog 12 #[.agg #[.int .i64 d, .slice A (q + 1) c]] W fun e W' => ∃ A2 c2 A3 c3, e = .returned (.tuple #[.agg #[.int .i64 d, .slice A2 q c2], .slice A3 x.length c3, .bool true]) ∧ Ow N W' (Iv (fun _ => True) W.heap.size W'.heap.size) (.slice A2 q c2) l ∧ Ob N W' (Iv (fun _ => True) W.heap.size W'.heap.size) (.slice A3 x.length c3) x ∧ Below W.heap.size W W' := by
  subst hq
  refine (YtekeehhbalhfiaaBoxTak.take_good d A c x l W hO.C.2.2 hO.C.2.1 hok).mono ?_
  rintro e W' ⟨v, v2, rfl, hS, hR, hb⟩
  obtain ⟨A2, c2, rfl⟩ := Kd.S_slice hS
  obtain ⟨A3, c3, rfl⟩ := Kd.R_slice hR
  exact ⟨A2, c2, A3, c3, rfl, Ow.new (Kd.S_mono hS (fun _ _ => trivial)) hN, Ob.new hR hN, hb⟩
theorem lit2 (W : World) (x y : Int) : Kd.R (Kd.int .u8) 5 (W.alloc (.cells #[.int .u8 x, .int .u8 y] 5)) W.heap.size (fun k => k = W.heap.size) (.slice (some ⟨W.heap.size, 0, none⟩) 2 2) [x, y] := by
  refine ⟨fun k hk => ?_, [.int .u8 x, .int .u8 y], ⟨rfl, .inr ⟨W.heap.size, 2, #[.int .u8 x, .int .u8 y], rfl, Nat.le_refl _, heap_alloc_new W _, Nat.le_refl _, by simp [maxLen], rfl, rfl⟩⟩, rfl, fun j p hj => ?_⟩
  · simpa [Value.ownBlock, eq_comm] using hk
  · match j, hj with
    | 0, hj =>
      obtain rfl := Option.some.inj hj
      exact rfl
    | 1, hj =>
      obtain rfl := Option.some.inj hj
      exact rfl
    | j + 2, hj => simp at hj
/-- The round's end: the box is laid into its block again. -/
theorem QR.close {N g : Nat} {w W : World} {d d0 : Int} {s0 v : Value} {L : List (List Int)} {A : Option Addr} {c q : Nat} {P : Nat → Prop} (hq : q = L.length) (hB : Below N w W) (hX : W.heap[g]? = some (.cells #[.int .i64 d0, s0] 25 (0, 0))) (hN : N ≤ g) (hO : Ow N W P (.slice A q c) L) (hQ : Kd.Q KB 22 W N (fun _ => True) v L) (hP : ∀ k, P k → some k ≠ v.ownBlock) (hok : YtekeehhbalhfiaaBoxDo.boxOkB d L = true) : QR N g w d v ((W.setCell ⟨g, 0, none⟩ (.int .i64 d)).setCell ⟨g, 1, none⟩ (.slice A q c)) := by
  subst hq
  have ht : ∀ q, q ∈ 22 :: KB.E → q ≠ 25 := by
    intro q hq
    simp [Kd.slice, Kd.int, Kd.scalar] at hq
    omega
  have hX1 := blk_set hX 0 (.int .i64 d)
  refine ⟨L, A, c, P, (hB.setCell (p := ⟨g, 0, none⟩) hN _).setCell (p := ⟨g, 1, none⟩) hN _, blk_set hX1 1 _, ⟨Kd.S_set (Kd.S_set hO.1 hX ht 0 _) hX1 ht 1 _, fun k hk => ?_⟩, Kd.Q_set (Kd.Q_set hQ hX ht 0 _) hX1 ht 1 _, hP, hok⟩
  have := hO.2 k hk
  simpa using this
theorem QR.alloc {g : Nat} {w W : World} {d : Int} {v : Value} (h : QR w.heap.size g w d v W) (o : Obj) : QR w.heap.size g w d v (W.alloc o) := by
  obtain ⟨L, A, c, P, hB, hX, hO, hQ, hP, hok⟩ := h
  exact ⟨L, A, c, P, below_alloc hB o, blk_alloc hX o, hO.below (below_alloc (Below.refl _ _) o), Kd.Q_alloc hQ o, hP, hok⟩
theorem head_L1 {w : World} {A : Option Addr} {n : Nat} {x0 : List Int} {l : List (List Int)} (h : Kd.C KB w A n (x0 :: l)) (hn : 0 < n) : ∃ ad A0 c0, A = some ad ∧ w.cell? ad = some (.slice A0 x0.length c0) ∧ x0.length ≤ c0 ∧ Kd.C (Kd.int .u8) w A0 x0.length x0 := by
  obtain ⟨ad, A0, c0, e, hx, h2⟩ := at_L1 h 0 (by omega) (by omega)
  have e0 : ad.add (0 : Int).toNat = ad := by
    show ad.add 0 = ad
    first
    | (simp; done)
    | (unfold Addr.add; split <;> simp_all)
  rw [e0] at hx
  exact ⟨ad, A0, c0, e, hx, h2⟩
theorem cut_val (ad6 : Addr) (q c6 : Nat) : Value.slice (if c6 = 1 then some ad6 else (some ad6).map (·.add (1 * KB.sz))) (q + 1 - 1) (c6 - 1) = Value.slice (if c6 = 1 then some ad6 else some { block := ad6.block, off := ad6.off + 1 }) q (c6 - 1) := by
  simp [Kd.slice, Addr.add]
theorem cast_Q {W : World} {N : Nat} {ok : Nat → Prop} {ad6 : Addr} {q c6 : Nat} {x0 : List Int} {l : List (List Int)} (h : Kd.Q KB 22 W N ok (Value.slice (if c6 = 1 then some ad6 else (some ad6).map (·.add (1 * KB.sz))) (q + 1 - 1) (c6 - 1)) ((x0 :: l).drop 1)) : Kd.Q KB 22 W N ok (Value.slice (if c6 = 1 then some ad6 else some { block := ad6.block, off := ad6.off + 1 }) q (c6 - 1)) l := by
  rw [cut_val] at h
  exact h
theorem cut_own (ad6 : Addr) (q c6 : Nat) : (Value.slice (if c6 = 1 then some ad6 else some { block := ad6.block, off := ad6.off + 1 }) q (c6 - 1)).ownBlock = (.slice (some ad6) (q + 1) c6 : Value).ownBlock := by
  by_cases h : c6 = 1
  · rw [if_pos h]
    rfl
  · rw [if_neg h]
    rfl
theorem ok_more {d : Int} {L : List (List Int)} {m : List Int} (h : YtekeehhbalhfiaaBoxDo.boxOkB d L = true) (hm : m.length = 2) (hr : (L.length : Int) < d) : YtekeehhbalhfiaaBoxDo.boxOkB d (L ++ [m]) = true := by
  obtain ⟨p1, p2, p3, p8⟩ := YtekeehhbalhfiaaBoxDo.ok_parts h
  exact ok_of p1 p2 (by simp; omega) (fun x hx => by
    rcases List.mem_append.1 hx with hx | hx
    · exact p8 x hx
    · rw [List.mem_singleton.1 hx]
      omega)
theorem ok_less {d : Int} {x : List Int} {L : List (List Int)} (h : YtekeehhbalhfiaaBoxDo.boxOkB d (x :: L) = true) : YtekeehhbalhfiaaBoxDo.boxOkB d L = true := by
  obtain ⟨p1, p2, p3, p8⟩ := YtekeehhbalhfiaaBoxDo.ok_parts h
  exact ok_of p1 p2 (by rw [List.length_cons] at p3; omega) (fun y hy => p8 y (List.mem_cons_of_mem _ hy))
theorem at_u8 {w : World} {A : Option Addr} {n : Nat} {xs : List Int} (h : Kd.C (Kd.int .u8) w A n xs) (i : Nat) (h1 : i < n) : ∃ ad, A = some ad ∧ w.cell? (ad.add i) = some (.int .u8 (xs.getD i 0)) := by
  obtain ⟨ad, c, e, _, hK, hc⟩ := Kd.C_get h (0 : Int) (i : Int) (by omega) (by omega)
  have hK' : c = [.int .u8 (xs.getD i 0)] := hK
  subst hK'
  have := hc 0 _ rfl
  exact ⟨ad, e, by simpa [Kd.int, Kd.scalar] using this⟩
theorem box_cells {W : World} {g : Nat} {a b : Value} {t : TypeId} (h : W.heap[g]? = some (.cells #[a, b] t (0, 0))) : W.cell? ⟨g, 0, none⟩ = some a ∧ W.cell? ⟨g, 1, none⟩ = some b := ⟨blk_cell h 0, blk_cell h 1⟩

set_option maxRecDepth 100000 in
set_option maxHeartbeats 4000000 in
theorem law_true (A0 : Option Addr) (c0 : Nat) (code : List Int) (A1 : Option Addr) (c1 : Nat) (more : List Int) (w : World) (hr : Kd.C (Kd.int .u8) w A1 more.length more) (hc : more.length ≤ c1) (hm0 : code.length ≤ maxLen) (hm : more.length ≤ maxLen) :
    Calls Try.prog 3 #[.slice A0 code.length c0, .slice A1 more.length c1] w fun e W => e = .returned (.bool true) ∧ Below w.heap.size w W := by
  have hmx : more.length ≤ 9223372036854775807 := hm
  by_cases h0 : (code.length : Int) > 1048576
  · have j0 : decide ((code.length : Int) > 1048576) = true := decide_eq_true h0
    clear hm hm0 hmx h0 hr hc
    go_enter Try.func3, Try.ntmps3
    go_wp2
    go_ret
    exact ⟨rfl, Below.refl _ _⟩
  have j0 : decide ((code.length : Int) > 1048576) = false := decide_eq_false h0
  by_cases h1 : (more.length : Int) > 1048576
  · have j1 : decide ((more.length : Int) > 1048576) = true := decide_eq_true h1
    clear hm hm0 hmx h0 h1 hr hc
    go_enter Try.func3, Try.ntmps3
    go_wp2
    go_ret
    exact ⟨rfl, Below.refl _ _⟩
  have j1 : decide ((more.length : Int) > 1048576) = false := decide_eq_false h1
  obtain ⟨n, hn⟩ : ∃ n, n = more.length := ⟨_, rfl⟩
  obtain ⟨n0, hn0⟩ : ∃ n, n = code.length := ⟨_, rfl⟩
  have NW := Aside0.mk (new_any (1 + (n : Int) % 4) (by omega) (by omega))
  have hdd : IntKind.i64.wrap (1 + (n : Int).tmod 4) = 1 + (n : Int) % 4 := by
    have : (n : Int).tmod 4 = (n : Int) % 4 := Int.tmod_eq_emod_of_nonneg (by omega)
    rw [this, wraps_i64 (1 + (n : Int) % 4) (by omega) (by omega)]
  have SN := Aside0.mk (fun W => show Calls Try.prog 10 #[.int .i64 (IntKind.i64.wrap (1 + (n : Int).tmod 4))] W (fun e w' => ∃ A c, e = .returned (.agg #[.int .i64 (1 + (n : Int) % 4), .slice A 0 c]) ∧ Kd.S KB 22 w' W.heap.size (fun _ => True) (.slice A 0 c) [] ∧ Below W.heap.size W w') by rw [hdd]; exact snew_any (1 + (n : Int) % 4) (by omega) (by omega) W)
  clear hdd
  have HR := Aside0.mk hr
  have HC := Aside0.mk hc
  rw [← hn] at HR HC j1 ⊢
  rw [← hn0] at j0 ⊢
  have HN := Aside0.mk hn
  clear hm hm0 hmx h0 h1 hr hc hn hn0
  by_cases h3 : (n : Int) > 300
  · have j3 : decide ((n : Int) > 300) = true := decide_eq_true h3
    clear h3
    go_enter Try.func3, Try.ntmps3
    go_wp2_with (go_at_call 8; with_reducible refine (NW.out w).mono ?_; rintro e w1 ⟨Ab, cb, rfl, hS, hb⟩; have HS := Aside0.mk hS; have B1 := Aside0.mk (below_alloc hb (.cells #[.int .i64 (1 + (n : Int) % 4), .slice Ab 0 cb] 25)); have X1 := Aside0.mk (heap_alloc_new w1 (.cells #[.int .i64 (1 + (n : Int) % 4), .slice Ab 0 cb] 25 (0, 0))); have LT := Aside0.mk hb.size; clear hS hb NW)
    obtain ⟨E, hE⟩ : ∃ E, E = w1.alloc (.cells #[.int .i64 (1 + (n : Int) % 4), .slice Ab 0 cb] 25) := ⟨_, rfl⟩
    have HSE := Aside0.mk (Kd.S_below HS.out (below_alloc (Below.refl w1.heap.size w1) (.cells #[.int .i64 (1 + (n : Int) % 4), .slice Ab 0 cb] 25)))
    rw [← hE] at B1 X1 HSE ⊢
    have p0 : E.cell? ⟨w1.heap.size, 0, none⟩ = some (.int .i64 (1 + (n : Int) % 4)) := blk_cell X1.out 0
    have p1 : E.cell? ⟨w1.heap.size, 1, none⟩ = some (.slice Ab 0 cb) := blk_cell X1.out 1
    clear hE HS
    go_region_with (first | (go_at_call 10; with_reducible refine (SN.out E.drew).mono ?_; rintro e w2 ⟨As, cs, rfl, hS, hb⟩; have hb1 := (below_drew (Below.refl E.heap.size E)).trans (hb.mono (Nat.le_refl _)); have HS2 := Aside0.mk (Kd.S_below HSE.out hb1); have HT2 := Aside0.mk hS; have B2 := Aside0.mk (B1.out.trans (hb1.mono B1.out.size)); have X2 := Aside0.mk (blk_below X1.out hb1); clear hS hb hb1 HSE B1 X1 SN; have r0 : w2.cell? ⟨w1.heap.size, 0, none⟩ = some (.int .i64 (1 + (n : Int) % 4)) := (box_cells X2.out).1; have r1 : w2.cell? ⟨w1.heap.size, 1, none⟩ = some (.slice Ab 0 cb) := (box_cells X2.out).2) | (go_at_call 9; with_reducible refine (cab_any (1 + (n : Int) % 4) Ab cb As cs w2 _ _ _ _ HS2.out HT2.out).mono ?_; rintro e w3 ⟨rfl, hb⟩; have HS3 := Aside0.mk (Kd.S_below HS2.out hb); have B3 := Aside0.mk (B2.out.trans (hb.mono B2.out.size)); have X3 := Aside0.mk (blk_below X2.out hb); clear hb HS2 HT2 B2 X2))
    all_goals go_simp
    all_goals go_wp2
    all_goals go_ret
    all_goals exact ⟨rfl, B3.out⟩
  have j3 : decide ((n : Int) > 300) = false := decide_eq_false h3
  go_enter Try.func3, Try.ntmps3
  go_wp2_with (go_at_call 8; with_reducible refine (NW.out w).mono ?_; rintro e w1 ⟨Ab, cb, rfl, hS, hb⟩; have HS := Aside0.mk hS; have B1 := Aside0.mk (below_alloc hb (.cells #[.int .i64 (1 + (n : Int) % 4), .slice Ab 0 cb] 25)); have X1 := Aside0.mk (heap_alloc_new w1 (.cells #[.int .i64 (1 + (n : Int) % 4), .slice Ab 0 cb] 25 (0, 0))); have LT := Aside0.mk hb.size; clear hS hb NW)
  obtain ⟨E, hE⟩ : ∃ E, E = w1.alloc (.cells #[.int .i64 (1 + (n : Int) % 4), .slice Ab 0 cb] 25) := ⟨_, rfl⟩
  have HSE := Aside0.mk (Kd.S_below HS.out (below_alloc (Below.refl w1.heap.size w1) (.cells #[.int .i64 (1 + (n : Int) % 4), .slice Ab 0 cb] 25)))
  rw [← hE] at B1 X1 HSE ⊢
  have p0 : E.cell? ⟨w1.heap.size, 0, none⟩ = some (.int .i64 (1 + (n : Int) % 4)) := blk_cell X1.out 0
  have p1 : E.cell? ⟨w1.heap.size, 1, none⟩ = some (.slice Ab 0 cb) := blk_cell X1.out 1
  clear hE HS
  go_region_with (first | (go_at_call 10; with_reducible refine (SN.out E.drew).mono ?_; rintro e w2 ⟨As, cs, rfl, hS, hb⟩; have hb1 := (below_drew (Below.refl E.heap.size E)).trans (hb.mono (Nat.le_refl _)); have HS2 := Aside0.mk (Kd.S_below HSE.out hb1); have HT2 := Aside0.mk hS; have B2 := Aside0.mk (B1.out.trans (hb1.mono B1.out.size)); have X2 := Aside0.mk (blk_below X1.out hb1); clear hS hb hb1 HSE B1 X1 SN; have r0 : w2.cell? ⟨w1.heap.size, 0, none⟩ = some (.int .i64 (1 + (n : Int) % 4)) := (box_cells X2.out).1; have r1 : w2.cell? ⟨w1.heap.size, 1, none⟩ = some (.slice Ab 0 cb) := (box_cells X2.out).2) | (go_at_call 9; with_reducible refine (cab_any (1 + (n : Int) % 4) Ab cb As cs w2 _ _ _ _ HS2.out HT2.out).mono ?_; rintro e w3 ⟨rfl, hb⟩; have HS3 := Aside0.mk (Kd.S_below HS2.out hb); have B3 := Aside0.mk (B2.out.trans (hb.mono B2.out.size)); have X3 := Aside0.mk (blk_below X2.out hb); clear hb HS2 HT2 B2 X2))
  all_goals go_simp
  all_goals go_wp2
  all_goals have HD := Aside0.mk (show YtekeehhbalhfiaaBoxDo.boxOkB (1 + (n : Int) % 4) [] = true from ok_of (by omega) (by omega) (by simp; omega) (fun x hx => by simp at hx))
  all_goals have LG := Aside0.mk (Nat.le_trans LT.out (Nat.le_refl _))
  all_goals generalize (1 + (n : Int) % 4) = d at *
  all_goals generalize (n : Int).tmod 4 = e1 at *
  all_goals generalize IntKind.i64.wrap (1 + e1) = e2 at *
  all_goals generalize (n : Int) % 4 = e3 at *
  any_goals (
    go_loopw [6, 7] (fun v6 v7 wr => ∃ i : Nat, i ≤ n ∧ v7 = .int .i64 i ∧ Aside0 (QR w.heap.size w1.heap.size w d v6 wr)) (fun _ v7 _ => n - (intOf v7).toNat)
    case atStart =>
      refine ⟨0, Nat.zero_le _, rfl, ⟨[], Ab, cb, Iv (fun _ => True) w.heap.size w3.heap.size, below_alloc B3.out _, blk_alloc X3.out _, ?_, ?_, ?_, ?_⟩⟩
      · exact (Ow.new (W := w) (W1 := w3) HS3.out (Nat.le_refl _)).below (below_alloc (Below.refl _ _) _) |> fun h => ⟨Kd.S_mono h.1 (fun k hk => ⟨trivial, hk.2⟩), fun k hk => Nat.lt_of_lt_of_le hk.2.2 (by simp)⟩
      · exact empty_Q B3.out.size
      · intro k hk he
        have := hk.2.2
        simp [Value.ownBlock] at he
        omega
      · exact HD.out
    case round =>
      obtain ⟨i, hi, rfl, HQ⟩ := hrel
      by_cases hlt : i < n
      · obtain ⟨L, Ab1, cb1, P, hB, hX, hO, hQ, hP, hok⟩ := HQ.out
        obtain ⟨A6, c6, rfl, hc6⟩ := Kd.Q_slice hQ
        obtain ⟨ad, rfl, hx⟩ := at_u8 (Kd.C_below HR.out hB) i hlt
        obtain ⟨x, hxx⟩ : ∃ x, x = more.getD i 0 := ⟨_, rfl⟩
        have hx2 := (at_u8 (Kd.C_below (Kd.C_below HR.out hB) (below_alloc (Below.refl wr.heap.size wr) (.cells #[.int .u8 x, .int .u8 ((i : Int) % 256)] 5))) i hlt)
        obtain ⟨ad', e', hx2⟩ := hx2
        obtain rfl := Option.some.inj e'
        rw [← hxx] at hx hx2
        have hb0 := below_alloc (Below.refl wr.heap.size wr) (.cells #[.int .u8 x, .int .u8 ((i : Int) % 256)] 5)
        have B0 := Aside0.mk (hB.trans (hb0.mono hB.size))
        have hX0 := blk_below hX hb0
        have hO0 := hO.below hb0
        have hQ0 := Kd.Q_below hQ hb0
        have HOK := Aside0.mk hok
        have M0 := Aside0.mk (lit2 wr x ((i : Int) % 256))
        have M0C := Aside0.mk (show Kd.C (Kd.int .u8) (wr.alloc (.cells #[.int .u8 x, .int .u8 ((i : Int) % 256)] 5)) (some ⟨wr.heap.size, 0, none⟩) 2 [x, (i : Int) % 256] from (Kd.R_reads' M0.out).2.2)
        have LW := Aside0.mk hB.size
        have QL := Aside0.mk (Kd.Q_lt hQ)
        have hlen : L.length ≤ 4 := by
          obtain ⟨_, p2, p3, _⟩ := YtekeehhbalhfiaaBoxDo.ok_parts hok
          omega
        have HLEN := Aside0.mk hlen
        clear hxx e' hb0 HQ hX hO hQ hB hok hlen
        by_cases hcase : 0 < x.tmod 3
        · obtain ⟨q, hq⟩ : ∃ q, q = L.length := ⟨_, rfl⟩
          rw [← hq] at hX0 hO0 hQ0 hP hc6 QL ⊢
          have HQL := Aside0.mk hq
          have X0 := Aside0.mk hX0
          have O0 := Aside0.mk hO0
          have Q0 := Aside0.mk hQ0
          have HP := Aside0.mk hP
          have p0 := (box_cells hX0).1
          have p1 := (box_cells hX0).2
          clear hX0 hO0 hQ0 hP hq hc6
          by_cases hroom : (q : Int) < d
          · have HF := Aside0.mk hroom
            have j5 : decide ((q : Int) < d) = true := decide_eq_true hroom
            clear hroom
            go_wp2_with (first | (go_at_call 11; with_reducible refine (putQ d Ab1 cb1 L q HQL.out (some ⟨wr.heap.size, 0, none⟩) 2 [x, (i : Int) % 256] rfl _ w.heap.size P O0.out M0C.out (Nat.le_refl _) HOK.out B0.out.size HF.out).mono ?_; rintro e w4 ⟨A2, c2, rfl, hO4, hb⟩; have hbE := below_alloc (Below.refl w4.heap.size w4) (.cells #[.int .i64 d, .slice A2 (q + 1) c2] 25); have hbT := hb.trans (hbE.mono hb.size); have B4 := Aside0.mk (B0.out.trans (hbT.mono B0.out.size)); have X4w := Aside0.mk (blk_below X0.out hb); have X4 := Aside0.mk (blk_below X0.out hbT); have XB := Aside0.mk (heap_alloc_new w4 (.cells #[.int .i64 d, .slice A2 (q + 1) c2] 25 (0, 0))); have B4w := Aside0.mk (B0.out.trans (hb.mono B0.out.size)); have O4w := Aside0.mk hO4; have Q4w := Aside0.mk (Kd.Q_below Q0.out hb); have O4 := Aside0.mk (hO4.below hbE); have Q4 := Aside0.mk (Kd.Q_below Q0.out hbT); have M4 := Aside0.mk (Kd.R_below M0.out hbT); have S4 := Aside0.mk hb.size; have S5 := Aside0.mk hbE.size; have hl : w1.heap.size < w4.heap.size := blk_lt X4w.out; clear p0 p1; have p0 : w4.cell? ⟨w1.heap.size, 0, none⟩ = some (.int .i64 d) := (box_cells X4w.out).1; have p1 : w4.cell? ⟨w1.heap.size, 1, none⟩ = some (.slice Ab1 q cb1) := (box_cells X4w.out).2; have pf0 : w4.frozen? ⟨w1.heap.size, 0, none⟩ = false := blk_frozen X4w.out 0; have pf1 : w4.frozen? ⟨w1.heap.size, 1, none⟩ = false := blk_frozen X4w.out 1; clear hb hbE hbT hO4) | ((with_reducible refine gate_builtin (b := .append) (xs := #[.tmp 77, .tmp 79]) rfl ?_); at_builtin; refine Kd.Q_append KB (w0 := w) w.heap.size rfl (.tmp 77) (.tmp 79) 23 22 (.slice none 0 0) 24 rfl Try.underlying23 infoQ rfl (by decide) (by omega) (.slice A6 q c6) L [x, (i : Int) % 256] [.slice (some ⟨wr.heap.size, 0, none⟩) 2 2] (fun _ => True) (fun k => k = wr.heap.size) ?aV ?aX ?aP ?aK ?aF ?aO ?aB ?aS ?aL ?_; (case aV => first | rfl | (go_simp; done) | (go_simp; rfl)); (case aX => first | rfl | (go_simp; done) | (go_simp; rfl)); (case aP => exact ⟨_, rfl, Kd.R_lower M4.out LW.out⟩); (case aK => exact fun k hk => ⟨trivial, fun he => absurd (QL.out k he.symm) (by omega)⟩); (case aF => exact fun _ _ => trivial); (case aO => exact Q4.out); (case aB => exact B4.out); (case aS => exact B4.out.size); (case aL => have := HLEN.out; omega); intro v9 w5 hQ5 hB5 hg5 hat5; have hne : ∀ k, w4.heap.size ≤ k → some k ≠ (.slice A6 q c6 : Value).ownBlock := fun k hk he => absurd (QL.out k he.symm) (by have := S4.out; simp at this; omega); have hgne := Kd.Q_ne Q4.out X4.out (by decide); have B5 := Aside0.mk hB5; have Q5 := Aside0.mk hQ5; have X5 := Aside0.mk (blk_grown X4.out hg5 hgne); have XB5 := Aside0.mk (blk_grown XB.out hg5 (hne _ (Nat.le_refl _))); have hlo : ∀ k, Iv (fun _ => True) (wr.alloc (.cells #[.int .u8 x, .int .u8 ((i : Int) % 256)] 5)).heap.size w4.heap.size k → some k ≠ (.slice A6 q c6 : Value).ownBlock := fun k hk he => absurd (QL.out k he.symm) (by have := hk.2.1; simp at this; omega); have O5 := Aside0.mk (show Ow w.heap.size w5 _ _ _ from ⟨Kd.S_grown O4.out.1 hg5 hlo, fun k hk => Nat.lt_of_lt_of_le (O4.out.2 k hk) hg5.size⟩); have HP5 := Aside0.mk (show ∀ k, Iv (fun _ => True) (wr.alloc (.cells #[.int .u8 x, .int .u8 ((i : Int) % 256)] 5)).heap.size w4.heap.size k → some k ≠ v9.ownBlock from fun k hk he => hat5.elim (fun h => hlo k hk (he.trans h)) (fun ⟨b, hb, hle⟩ => absurd (O4.out.2 k hk) (by rw [hb] at he; injection he with he; omega))); clear p0 p1 pf0 pf1 hl; have p0 := (box_cells XB5.out).1; have p1 := (box_cells XB5.out).2; have g0 := (box_cells X5.out).1; have g1 := (box_cells X5.out).2; have pf0 : w5.frozen? ⟨w1.heap.size, 0, none⟩ = false := blk_frozen X5.out 0; have pf1 : w5.frozen? ⟨w1.heap.size, 1, none⟩ = false := blk_frozen X5.out 1; clear hQ5 hB5 hg5 hat5 hne hgne hlo))
            go_roundw
            case rel =>
              refine ⟨i + 1, by omega, by go_num, ⟨QR.close (L := L ++ [[x, (i : Int) % 256]]) (by rw [HQL.out]; simp) B5.out X5.out LG.out O5.out Q5.out HP5.out (ok_more HOK.out rfl (by have := HF.out; rw [HQL.out] at this; exact this))⟩⟩
            case measure => simp [intOf]; omega
          · have HF := Aside0.mk hroom
            have j5 : decide ((q : Int) < d) = false := decide_eq_false hroom
            clear hroom
            go_wp2_with (go_at_call 11; with_reducible refine (putF d Ab1 cb1 L q HQL.out (some ⟨wr.heap.size, 0, none⟩) 2 [x, (i : Int) % 256] rfl _ w.heap.size P O0.out HOK.out B0.out.size HF.out).mono ?_; rintro e w4 ⟨A2, c2, rfl, hO4, hb⟩; have hbE := below_alloc (Below.refl w4.heap.size w4) (.cells #[.int .i64 d, .slice A2 q c2] 25); have hbT := hb.trans (hbE.mono hb.size); have B4 := Aside0.mk (B0.out.trans (hbT.mono B0.out.size)); have X4w := Aside0.mk (blk_below X0.out hb); have X4 := Aside0.mk (blk_below X0.out hbT); have XB := Aside0.mk (heap_alloc_new w4 (.cells #[.int .i64 d, .slice A2 q c2] 25 (0, 0))); have B4w := Aside0.mk (B0.out.trans (hb.mono B0.out.size)); have O4w := Aside0.mk hO4; have Q4w := Aside0.mk (Kd.Q_below Q0.out hb); have O4 := Aside0.mk (hO4.below hbE); have Q4 := Aside0.mk (Kd.Q_below Q0.out hbT); have S4 := Aside0.mk hb.size; have S5 := Aside0.mk hbE.size; have hl : w1.heap.size < w4.heap.size := blk_lt X4w.out; clear p0 p1; have p0 : w4.cell? ⟨w1.heap.size, 0, none⟩ = some (.int .i64 d) := (box_cells X4w.out).1; have p1 : w4.cell? ⟨w1.heap.size, 1, none⟩ = some (.slice Ab1 q cb1) := (box_cells X4w.out).2; have pf0 : w4.frozen? ⟨w1.heap.size, 0, none⟩ = false := blk_frozen X4w.out 0; have pf1 : w4.frozen? ⟨w1.heap.size, 1, none⟩ = false := blk_frozen X4w.out 1; clear hb hbE hbT hO4)
            go_roundw
            case rel =>
              refine ⟨i + 1, by omega, by go_num, ⟨QR.alloc (QR.close HQL.out B4w.out X4w.out LG.out O4w.out Q4w.out (fun k hk he => ?_) HOK.out) _⟩⟩
              have h1 := QL.out k he.symm
              have h2 := hk.2.1
              simp at h2
              omega
            case measure => simp [intOf]; omega
        · rcases L with _ | ⟨x0, l⟩
          · simp only [List.length_nil] at hX0 hO0 hQ0 hP hc6 QL HLEN ⊢
            have X0 := Aside0.mk hX0
            have O0 := Aside0.mk hO0
            have Q0 := Aside0.mk hQ0
            have HP := Aside0.mk hP
            have p0 := (box_cells hX0).1
            have p1 := (box_cells hX0).2
            clear hX0 hO0 hQ0 hP hc6
            go_wp2_with (go_at_call 12; with_reducible refine (takeE d Ab1 cb1 _ w.heap.size P O0.out HOK.out B0.out.size).mono ?_; rintro e w4 ⟨A2, c2, rfl, hO4, hb⟩; have hbE := below_alloc (Below.refl w4.heap.size w4) (.cells #[.int .i64 d, .slice A2 0 c2] 25); have hbT := hb.trans (hbE.mono hb.size); have B4 := Aside0.mk (B0.out.trans (hbT.mono B0.out.size)); have X4w := Aside0.mk (blk_below X0.out hb); have X4 := Aside0.mk (blk_below X0.out hbT); have XB := Aside0.mk (heap_alloc_new w4 (.cells #[.int .i64 d, .slice A2 0 c2] 25 (0, 0))); have B4w := Aside0.mk (B0.out.trans (hb.mono B0.out.size)); have O4w := Aside0.mk hO4; have Q4w := Aside0.mk (Kd.Q_below Q0.out hb); have O4 := Aside0.mk (hO4.below hbE); have Q4 := Aside0.mk (Kd.Q_below Q0.out hbT); have S4 := Aside0.mk hb.size; have S5 := Aside0.mk hbE.size; have hl : w1.heap.size < w4.heap.size := blk_lt X4w.out; clear p0 p1; have p0 : w4.cell? ⟨w1.heap.size, 0, none⟩ = some (.int .i64 d) := (box_cells X4w.out).1; have p1 : w4.cell? ⟨w1.heap.size, 1, none⟩ = some (.slice Ab1 0 cb1) := (box_cells X4w.out).2; have pf0 : w4.frozen? ⟨w1.heap.size, 0, none⟩ = false := blk_frozen X4w.out 0; have pf1 : w4.frozen? ⟨w1.heap.size, 1, none⟩ = false := blk_frozen X4w.out 1; clear hb hbE hbT hO4)
            go_roundw
            case rel =>
              refine ⟨i + 1, by omega, by go_num, ⟨QR.alloc (QR.close (L := []) rfl B4w.out X4w.out LG.out O4w.out Q4w.out (fun k hk he => ?_) HOK.out) _⟩⟩
              have h1 := QL.out k he.symm
              have h2 := hk.2.1
              simp at h2
              omega
            case measure => simp [intOf]; omega
          · obtain ⟨q, hq⟩ : ∃ q, q = l.length := ⟨_, rfl⟩
            simp only [List.length_cons] at hX0 hO0 hQ0 hP hc6 QL HLEN ⊢
            rw [← hq] at hX0 hO0 hQ0 hP hc6 QL HLEN ⊢
            obtain ⟨ad6, A9, c9, rfl, -, -, -⟩ := head_L1 (Kd.Q_reads' hQ0).2.2 (by simp)
            have HQL := Aside0.mk hq
            have X0 := Aside0.mk hX0
            have O0 := Aside0.mk hO0
            have Q0 := Aside0.mk hQ0
            have HP := Aside0.mk hP
            have p0 := (box_cells hX0).1
            have p1 := (box_cells hX0).2
            have j6 : decide ((q : Int) + 1 > 0) = true := decide_eq_true (by omega)
            obtain ⟨i0, hi0, _, hsz, _⟩ := info_parts infoQ
            have hcut := cut_from (P := Try.prog) 23 22 .i64 Try.underlying23 hi0 1 hsz (some ad6) (q + 1) c6 1 (by omega) (by omega)
            clear hX0 hO0 hQ0 hP hc6 hq hi0 hsz
            go_wp2_with (first | (go_at_call 12; with_reducible refine (takeG d Ab1 cb1 x0 l q HQL.out _ w.heap.size P O0.out HOK.out B0.out.size).mono ?_; rintro e w4 ⟨A2, c2, A3, c3, rfl, hO4, hM4, hb⟩; have hbE := below_alloc (Below.refl w4.heap.size w4) (.cells #[.int .i64 d, .slice A2 q c2] 25); have hbT := hb.trans (hbE.mono hb.size); have B4 := Aside0.mk (B0.out.trans (hbT.mono B0.out.size)); have X4w := Aside0.mk (blk_below X0.out hb); have X4 := Aside0.mk (blk_below X0.out hbT); have XB := Aside0.mk (heap_alloc_new w4 (.cells #[.int .i64 d, .slice A2 q c2] 25 (0, 0))); have B4w := Aside0.mk (B0.out.trans (hb.mono B0.out.size)); have O4w := Aside0.mk hO4; have Q4w := Aside0.mk (Kd.Q_below Q0.out hb); have O4 := Aside0.mk (hO4.below hbE); have Q4 := Aside0.mk (Kd.Q_below Q0.out hbT); have G4 := Aside0.mk (hM4.below hbE); clear hM4; obtain ⟨ad9, A9, c9, e9, hx9, hl9, hC9⟩ := head_L1 (Kd.Q_reads' Q4.out).2.2 (by simp); obtain rfl := Option.some.inj e9; have hx9' := hx9; have L9 := Aside0.mk hl9; have C9 := Aside0.mk hC9; clear hx9 hl9 hC9 e9; have S4 := Aside0.mk hb.size; have S5 := Aside0.mk hbE.size; have hl : w1.heap.size < w4.heap.size := blk_lt X4w.out; clear p0 p1; have p0 : w4.cell? ⟨w1.heap.size, 0, none⟩ = some (.int .i64 d) := (box_cells X4w.out).1; have p1 : w4.cell? ⟨w1.heap.size, 1, none⟩ = some (.slice Ab1 (q + 1) cb1) := (box_cells X4w.out).2; have pf0 : w4.frozen? ⟨w1.heap.size, 0, none⟩ = false := blk_frozen X4w.out 0; have pf1 : w4.frozen? ⟨w1.heap.size, 1, none⟩ = false := blk_frozen X4w.out 1; clear hb hbE hbT hO4) | (go_at_call 13; refine (laws_caBytes.calls A3 c3 x0 A9 c9 x0 true _ G4.out.C.2.2 G4.out.C.2.1 C9.out L9.out (caBytes_self x0)).mono ?_; rintro e w6 ⟨rfl, hd⟩; have hb := hd.below; have B6 := Aside0.mk (B4.out.trans (hb.mono B4.out.size)); have X6 := Aside0.mk (blk_below X4.out hb); have XB6 := Aside0.mk (blk_below XB.out hb); have O6 := Aside0.mk (O4.out.below hb); have Q6 := Aside0.mk (Kd.Q_below Q4.out hb); clear p0 p1 pf0 pf1 hl hx9'; have p0 := (box_cells XB6.out).1; have p1 := (box_cells XB6.out).2; have g0 := (box_cells X6.out).1; have g1 := (box_cells X6.out).2; have pf0 : w6.frozen? ⟨w1.heap.size, 0, none⟩ = false := blk_frozen X6.out 0; have pf1 : w6.frozen? ⟨w1.heap.size, 1, none⟩ = false := blk_frozen X6.out 1; clear hb hd))
            go_roundw
            case rel =>
              refine ⟨i + 1, by omega, by go_num, ⟨?_⟩⟩
              have hq2 := Kd.Q_drop (k := 1) Q6.out (by simp)
              have hlo : ∀ k, Iv (fun _ => True) (wr.alloc (.cells #[.int .u8 x, .int .u8 ((i : Int) % 256)] 5)).heap.size w4.heap.size k → some k ≠ (.slice (some ad6) (q + 1) c6 : Value).ownBlock := fun k hk he => absurd (QL.out k he.symm) (by have := hk.2.1; simp at this; omega)
              exact QR.close (L := l) HQL.out B6.out X6.out LG.out O6.out (cast_Q hq2) (fun k hk => (cut_own ad6 q c6).symm ▸ hlo k hk) (ok_less HOK.out)
            case measure => simp [intOf]; omega
      · obtain rfl : i = n := by omega
        obtain ⟨L, Ab1, cb1, P, hB, hX, hO, hQ, hP, hok⟩ := HQ.out
        obtain ⟨A6, c6, rfl, hc6⟩ := Kd.Q_slice hQ
        have hlen : L.length ≤ 4 := by
          obtain ⟨_, p2, p3, _⟩ := YtekeehhbalhfiaaBoxDo.ok_parts hok
          omega
        have CI := Aside0.mk (fun W (hb : Below wr.heap.size wr W) => laws_caItems.calls (L.length + 1) Ab1 cb1 L A6 c6 L true W (Kd.C_below hO.C.2.2 hb) hO.C.2.1 (Kd.C_below (Kd.Q_reads' hQ).2.2 hb) hc6 (caItems_self L (by omega) _ (by omega)))
        have BO := Aside0.mk (fun W (hb : Below wr.heap.size wr W) => YtekeehhbalhfiaaBoxDo.ok_any d Ab1 cb1 L W (Kd.C_below hO.C.2.2 hb) hO.C.2.1 (by omega))
        rw [hok] at BO
        have BR := Aside0.mk hB
        have XR := Aside0.mk hX
        have p0 := (box_cells hX).1
        have p1 := (box_cells hX).2
        clear hX hO hQ hP hok hc6 hlen hB HQ
        go_wp2_with (first | (go_at_call 14; refine (CI.out wr (Below.refl _ _)).mono ?_; rintro e w4 ⟨rfl, hd⟩; have hb := hd.below; have B4 := Aside0.mk hb; have X4 := Aside0.mk (blk_below XR.out hb); clear p0 p1; have p0 := (box_cells X4.out).1; have p1 := (box_cells X4.out).2; clear hb hd) | (go_at_call 15; refine (BO.out w4 B4.out).mono ?_; rintro e w5 ⟨rfl, hb⟩; have B5 := Aside0.mk ((BR.out.trans (B4.out.mono BR.out.size)).trans (hb.mono (Nat.le_trans BR.out.size B4.out.size))); clear hb))
        go_ret
        exact ⟨rfl, B5.out⟩)
end Go.Proofs.YtekeehhbalhfiaaBoxQueueLaw
