/- What the laws of the boxes call, each for every world: copies, comparisons, numbers. Conditions: rows of bounded length. -/
import Derived.Test.YtekeehhbalhfiaaBoxMark
import Derived.Test.YtekeehhbalhfiaaBoxTold
set_option linter.unusedVariables false
set_option linter.unusedSimpArgs false
namespace Go.Proofs.YtekeehhbalhfiaaBoxEx
open Go.RowKit Go.Proofs.YtekeehhbalhfiaaW.PrintWords Go.Proofs.YtekeehhbalhfiaaPl Go.Proofs.Ytekeehhbalhfiaa.PBoxEx Go.Proofs.YtekeehhbalhfiaaBoxMark Go.Proofs
theorem toByteS_eq (l : List Int) (hl : l.length ≤ 1048576) (k : Nat) (hk : l.length < k) : laws_toByteS.f k l = some l := by
  unfold laws_toByteS.f
  rw [if_pos (by omega), if_pos (by omega)]
  have h := map_loop (fun k y i => laws_toByteS.l0 k l y i) l id (fun k y i hi hy => by
    simp only [laws_toByteS.l0]
    rw [if_pos (by omega), if_pos (by omega), if_pos (by omega), wrap_nat (by omega), rd_nat l i hi]
    rfl) (fun k y hy => by
    simp only [laws_toByteS.l0]
    rw [if_neg (by omega)]) k (List.replicate ((l.length : Int) : Int).toNat 0) (by simp) hk
  simpa using h
theorem eqByteS_self (l : List Int) (hl : l.length ≤ 1048576) (k : Nat) (hk : l.length < k) : laws_eqByteS.f k l l = some true := by
  unfold laws_eqByteS.f
  rw [if_pos rfl]
  exact all_loop_true (fun k i => laws_eqByteS.l0 k l l i) l.length (fun k i hi => by
    simp only [laws_eqByteS.l0]
    rw [if_pos (by omega), if_pos (by omega), if_pos (by omega), if_pos trivial, wrap_nat (by omega)]) (fun k => by
    simp only [laws_eqByteS.l0]
    rw [if_neg (by omega)]) k hk
theorem l1In_eq (a b c : Int) : spec_l1In.f a b c = some (decide (b ≤ a ∧ a ≤ c)) := by
  unfold spec_l1In.f
  by_cases h1 : b ≤ a
  · rw [if_pos h1]
    simp [h1]
  · rw [if_neg h1]
    simp [h1]
def Small (l : List (List Int)) : Prop := ∀ x ∈ l, x.length ≤ 1048576
theorem rdL_nat (l : List (List Int)) (i : Nat) (h : i < l.length) : rd_L1 l (i : Int) = l[i] := by
  simp [rd_L1, h]
theorem szByteS_eq (x : List Int) (b : Int) (hx : x.length ≤ maxLen) (hb0 : 0 ≤ b) (hb1 : b ≤ 1048576) : laws_szByteS.f x b = some (if (x.length : Int) ≤ b then b - (x.length : Int) else -1) := by
  unfold laws_szByteS.f
  have : maxLen = 9223372036854775807 := rfl
  rw [wrap_in (by omega) (by omega)]
  by_cases h : (x.length : Int) ≤ b
  · rw [if_neg (by omega), if_pos h]
  · rw [if_pos (by omega), if_neg h]
theorem toByteSS_eq (l : List (List Int)) (hs : Small l) (hl : l.length ≤ 1048576) (k : Nat) (hk : l.length + 1048577 < k) : laws_toByteSS.f k l = some l := by
  have gen : ∀ (d k i : Nat) (y : List (List Int)), i + d = l.length → y.length = l.length → d + 1048577 < k → laws_toByteSS.l0 k l y (i : Int) = some (y.take i ++ l.drop i) := by
    intro d
    induction d with
    | zero =>
      intro k i y hi hy hk
      obtain ⟨k, rfl⟩ : ∃ m, k = m + 1 := ⟨k - 1, by omega⟩
      have e0 : l.drop i = [] := List.drop_eq_nil_of_le (by omega)
      simp only [laws_toByteSS.l0]
      rw [if_neg (by omega), e0, List.append_nil, List.take_of_length_le (by omega)]
    | succ d ih =>
      intro k i y hi hy hk
      obtain ⟨k, rfl⟩ : ∃ m, k = m + 1 := ⟨k - 1, by omega⟩
      have e0 : l.drop i = l[i] :: l.drop (i + 1) := List.drop_eq_getElem_cons (by omega)
      have hx := hs _ (List.getElem_mem (show i < l.length by omega))
      simp only [laws_toByteSS.l0]
      rw [if_pos (by omega), if_pos (by omega), rdL_nat l i (by omega), toByteS_eq _ hx k (by omega)]
      simp only [Option.bind_some]
      rw [if_pos (by omega), wrap_nat (by omega), Int.toNat_natCast, ih k (i + 1) _ (by omega) (by rw [List.length_set]; exact hy) (by omega), e0]
      congr 1
      rw [List.take_succ_eq_append_getElem (by rw [List.length_set]; omega), List.getElem_set_self, List.take_set_of_le (Nat.le_refl i), List.append_assoc]
      rfl
  unfold laws_toByteSS.f
  rw [if_pos (by omega), if_pos (by omega)]
  have h := gen l.length k 0 (List.replicate ((l.length : Int) : Int).toNat []) (by omega) (by simp) (by omega)
  simpa using h
theorem eqByteSS_self (l : List (List Int)) (hs : Small l) (hl : l.length ≤ 1048576) (k : Nat) (hk : l.length + 1048577 < k) : laws_eqByteSS.f k l l = some true := by
  have gen : ∀ (d k i : Nat), i + d = l.length → d + 1048577 < k → laws_eqByteSS.l0 k l l (i : Int) = some true := by
    intro d
    induction d with
    | zero =>
      intro k i hi hk
      obtain ⟨k, rfl⟩ : ∃ m, k = m + 1 := ⟨k - 1, by omega⟩
      simp only [laws_eqByteSS.l0]
      rw [if_neg (by omega)]
    | succ d ih =>
      intro k i hi hk
      obtain ⟨k, rfl⟩ : ∃ m, k = m + 1 := ⟨k - 1, by omega⟩
      have hx := hs _ (List.getElem_mem (show i < l.length by omega))
      simp only [laws_eqByteSS.l0]
      rw [if_pos (by omega), if_pos (by omega), if_pos (by omega), rdL_nat l i (by omega), eqByteS_self _ hx k (by omega)]
      simp only [Option.bind_some, if_true]
      rw [wrap_nat (by omega)]
      exact ih k (i + 1) (by omega) (by omega)
  unfold laws_eqByteSS.f
  rw [if_pos rfl]
  exact gen l.length k 0 (by omega) (by omega)
def boxOkB (d : Int) (l : List (List Int)) : Bool := decide (1 ≤ d ∧ d ≤ 4) && (decide ((l.length : Int) ≤ d) && (List.range l.length).all fun j => decide ((rd_L1 l (j : Int)).length ≤ 8))
theorem specBoxOk_eq (d : Int) (l : List (List Int)) (hl : l.length ≤ 1048576) (k : Nat) (hk : l.length + 1 < k) : spec_BoxOk.f k d l = some (boxOkB d l) := by
  obtain ⟨k, rfl⟩ : ∃ m, k = m + 1 := ⟨k - 1, by omega⟩
  unfold spec_BoxOk.f boxOkB
  rw [l1In_eq]
  simp only [Option.bind_some, spec_BoxOk.j0]
  by_cases h1 : 1 ≤ d ∧ d ≤ 4
  · rw [decide_eq_true h1, if_pos rfl, Bool.true_and]
    by_cases h3 : (l.length : Int) > d
    · rw [decide_eq_true h3, if_pos rfl, decide_eq_false (by omega), Bool.false_and]
    · rw [decide_eq_false h3, if_neg (by simp), decide_eq_true (show (l.length : Int) ≤ d by omega), Bool.true_and]
      exact all_loop (fun k i => spec_BoxOk.l0 k i d l) l.length (fun j => decide ((rd_L1 l (j : Int)).length ≤ 8)) (fun k i hi => by
        simp only [spec_BoxOk.l0, spec_BytMessage.f]
        rw [if_pos (by omega), if_pos (by omega), wrap_nat (by omega)]
        simp only [Option.bind_some]
        by_cases c : (rd_L1 l (i : Int)).length ≤ 8
        · rw [decide_eq_true (show ((rd_L1 l (i : Int)).length : Int) ≤ 8 by omega), decide_eq_true c]
        · rw [decide_eq_false (show ¬ ((rd_L1 l (i : Int)).length : Int) ≤ 8 by omega), decide_eq_false c]) (fun k => by
        simp only [spec_BoxOk.l0]
        rw [if_neg (by omega)]) k (by omega)
  · rw [decide_eq_false h1, if_neg (by simp), if_pos trivial, Bool.false_and]
theorem copy2_eq (m : List Int) (hm : m.length ≤ 9) : spec_l2Copy.f m = some m := by
  unfold spec_l2Copy.f
  rw [Option.bind_some, if_pos (by simp; omega)]
  rfl
theorem rdX_nat (L : List (List Int)) (i : Nat) (h : i < L.length) : rd_L1 L (i : Int) = L[i] := by
  unfold rd_L1
  rw [show ((i : Int)).toNat = i from rfl, List.getD_eq_getElem?_getD, List.getElem?_eq_getElem h]
  rfl
theorem copy7_loop (dep : Int) (L : List (List Int)) (h8 : ∀ x ∈ L, x.length ≤ 9) (hL : L.length ≤ 10) : ∀ (d k i : Nat) (y : List (List Int)), i + d = L.length → y.length = i → d < k → spec_l7Copy.l0 k y (i : Int) dep L = some (dep, y ++ L.drop i) := by
  intro d
  induction d with
  | zero =>
    intro k i y hi hy hk
    obtain ⟨k, rfl⟩ : ∃ q, k = q + 1 := ⟨k - 1, by omega⟩
    simp only [spec_l7Copy.l0]
    rw [if_neg (by omega), List.drop_of_length_le (by omega), List.append_nil]
  | succ d ih =>
    intro k i y hi hy hk
    obtain ⟨k, rfl⟩ : ∃ q, k = q + 1 := ⟨k - 1, by omega⟩
    have hlt : i < L.length := by omega
    simp only [spec_l7Copy.l0]
    rw [if_pos (by omega), if_pos (by omega), rdX_nat L i hlt, copy2_eq _ (h8 _ (List.getElem_mem hlt)), Option.bind_some, if_pos (by omega), wrap_nat (by omega), ih k (i + 1) _ (by omega) (by rw [List.length_append, List.length_singleton]; omega) (by omega), List.drop_eq_getElem_cons hlt, List.append_assoc]
    rfl
theorem copy7_eq (dep : Int) (L : List (List Int)) (h8 : ∀ x ∈ L, x.length ≤ 9) (hL : L.length ≤ 10) (k : Nat) (hk : 20 ≤ k) : spec_l7Copy.f k dep L = some (dep, L) := by
  have := copy7_loop dep L h8 hL L.length k 0 [] (by omega) rfl (by omega)
  unfold spec_l7Copy.f
  simpa using this
theorem putZ_eq (dep : Int) (L : List (List Int)) (m : List Int) (hL : L.length ≤ 10) (hm : m.length ≤ 9) : YtekeehhbalhfiaaBoxTold.putZ dep L m = some (if boxOkB dep L = true ∧ m.length ≤ 8 then (if (L.length : Int) ≥ dep then (dep, L, false) else (dep, L ++ [m], true)) else (0, [], false)) := by
  unfold YtekeehhbalhfiaaBoxTold.putZ
  rw [if_pos ⟨by omega, by omega⟩]
  show (if boxOkB dep L = true ∧ m.length ≤ 8 then _ else _) = _
  by_cases h : boxOkB dep L = true ∧ m.length ≤ 8
  · rw [if_pos h, if_pos h]
    by_cases h2 : (L.length : Int) ≥ dep
    · rw [if_pos h2, if_pos h2]
    · rw [if_neg h2, if_neg h2]
  · rw [if_neg h, if_neg h]
theorem ok_parts {d : Int} {L : List (List Int)} (h : boxOkB d L = true) : 1 ≤ d ∧ d ≤ 4 ∧ (L.length : Int) ≤ d ∧ ∀ x ∈ L, x.length ≤ 8 := YtekeehhbalhfiaaBoxDo.ok_parts h
theorem ok_of {d : Int} {L : List (List Int)} (h1 : 1 ≤ d) (h2 : d ≤ 4) (h3 : (L.length : Int) ≤ d) (h8 : ∀ x ∈ L, x.length ≤ 8) : boxOkB d L = true := by
  unfold boxOkB
  rw [Bool.and_eq_true, Bool.and_eq_true, decide_eq_true_eq, decide_eq_true_eq, List.all_eq_true]
  refine ⟨⟨h1, h2⟩, h3, fun i hi => ?_⟩
  have hi := List.mem_range.1 hi
  rw [rdX_nat L i hi, decide_eq_true_eq]
  exact h8 _ (List.getElem_mem hi)
theorem specPut_eq (dep : Int) (L : List (List Int)) (m : List Int) (hL : L.length ≤ 10) (hm : m.length ≤ 9) (k : Nat) (hk : 30 ≤ k) : spec_BoxPut.f k dep L m = some (if boxOkB dep L = true ∧ m.length ≤ 8 then (if (L.length : Int) ≥ dep then (dep, L, false) else (dep, L ++ [m], true)) else (0, [], false)) := by
  obtain ⟨k, rfl⟩ : ∃ q, k = q + 1 := ⟨k - 1, by omega⟩
  unfold spec_BoxPut.f spec_BytMessage.f
  rw [specBoxOk_eq _ _ (by omega) _ (by omega), Option.bind_some]
  by_cases h1 : boxOkB dep L = true
  · obtain ⟨p1, p2, p3, p8⟩ := ok_parts h1
    rw [if_pos h1, Option.bind_some]
    by_cases h2 : m.length ≤ 8
    · rw [decide_eq_true (show (m.length : Int) ≤ 8 by omega), if_pos ⟨h1, h2⟩]
      simp only [spec_BoxPut.j0, Bool.not_true]
      rw [if_neg Bool.false_ne_true, copy7_eq dep L (fun x hx => by have := p8 x hx; omega) hL _ (by omega)]
      simp only [Option.bind_some]
      by_cases h3 : (L.length : Int) = dep
      · rw [if_pos h3, if_pos (by omega)]
      · rw [if_neg h3, if_neg (by omega), copy2_eq m hm, Option.bind_some, if_pos (by omega)]
    · rw [decide_eq_false (show ¬ (m.length : Int) ≤ 8 by omega), if_neg (fun h => h2 h.2)]
      simp [spec_BoxPut.j0]
  · rw [if_neg h1, if_neg (fun h => h1 h.1)]
    simp [spec_BoxPut.j0]
theorem specPutG_eq (dep : Int) (L : List (List Int)) (m : List Int) (hL : L.length ≤ 1048576) (hm : m.length ≤ 1048576) (k : Nat) (hk : L.length + 30 ≤ k) : spec_BoxPut.f k dep L m = some (if boxOkB dep L = true ∧ m.length ≤ 8 then (if (L.length : Int) ≥ dep then (dep, L, false) else (dep, L ++ [m], true)) else (0, [], false)) := by
  obtain ⟨k, rfl⟩ : ∃ q, k = q + 1 := ⟨k - 1, by omega⟩
  unfold spec_BoxPut.f spec_BytMessage.f
  rw [specBoxOk_eq _ _ (by omega) _ (by omega), Option.bind_some]
  by_cases h1 : boxOkB dep L = true
  · obtain ⟨p1, p2, p3, p8⟩ := ok_parts h1
    rw [if_pos h1, Option.bind_some]
    by_cases h2 : m.length ≤ 8
    · rw [decide_eq_true (show (m.length : Int) ≤ 8 by omega), if_pos ⟨h1, h2⟩]
      simp only [spec_BoxPut.j0, Bool.not_true]
      rw [if_neg Bool.false_ne_true, copy7_eq dep L (fun x hx => by have := p8 x hx; omega) (by omega) _ (by omega)]
      simp only [Option.bind_some]
      by_cases h3 : (L.length : Int) = dep
      · rw [if_pos h3, if_pos (by omega)]
      · rw [if_neg h3, if_neg (by omega), copy2_eq m (by omega), Option.bind_some, if_pos (by omega)]
    · rw [decide_eq_false (show ¬ (m.length : Int) ≤ 8 by omega), if_neg (fun h => h2 h.2)]
      simp [spec_BoxPut.j0]
  · rw [if_neg h1, if_neg (fun h => h1 h.1)]
    simp [spec_BoxPut.j0]
theorem specPutZ (D : Int) (L : List (List Int)) (m : List Int) (hL : L.length ≤ 1048576) (hm : m.length ≤ 1048576) (k : Nat) (hk : L.length + 30 ≤ k) {r : Int × List (List Int) × Bool} (h : YtekeehhbalhfiaaBoxTold.putZ D L m = some r) : spec_BoxPut.f k D L m = some r := by
  rw [specPutG_eq D L m hL hm k hk, ← h]
  unfold YtekeehhbalhfiaaBoxTold.putZ
  rw [if_pos (show L.length ≤ 1048576 ∧ m.length ≤ 9223372036854775807 from ⟨hL, by omega⟩)]
  show _ = (if boxOkB D L = true ∧ m.length ≤ 8 then _ else _)
  by_cases h : boxOkB D L = true ∧ m.length ≤ 8
  · rw [if_pos h, if_pos h]
    by_cases h2 : (L.length : Int) ≥ D
    · rw [if_pos h2, if_pos h2]
    · rw [if_neg h2, if_neg h2]
  · rw [if_neg h, if_neg h]
theorem sz2_loop (l : List (List Int)) (hl : ∀ x ∈ l, x.length ≤ maxLen) (hL : l.length ≤ 1048576) : ∀ (d k i : Nat) (b : Int), i + d = l.length → d < k → 0 ≤ b → b ≤ 1048576 →
    ∃ r, laws_szByteSS.l0 k l b (i : Int) = some r ∧ (r < 0 ∨ (tot (l.drop i) : Int) ≤ b) := by
  intro d
  induction d with
  | zero =>
    intro k i b hi hk hb0 hb1
    obtain ⟨k, rfl⟩ : ∃ m, k = m + 1 := ⟨k - 1, by omega⟩
    simp only [laws_szByteSS.l0]
    have e0 : l.drop i = [] := List.drop_eq_nil_of_le (by omega)
    rw [if_neg (by omega), e0]
    exact ⟨_, rfl, Or.inr (by simp [tot]; omega)⟩
  | succ d ih =>
    intro k i b hi hk hb0 hb1
    obtain ⟨k, rfl⟩ : ∃ m, k = m + 1 := ⟨k - 1, by omega⟩
    simp only [laws_szByteSS.l0]
    have e0 : l.drop i = l[i] :: l.drop (i + 1) := List.drop_eq_getElem_cons (by omega)
    rw [if_pos (by omega), if_pos (by omega), rdL_nat l i (by omega), szByteS_eq _ _ (hl _ (List.getElem_mem _)) hb0 hb1, e0]
    simp only [Option.bind_some]
    by_cases h : ((l[i]).length : Int) ≤ b
    · rw [if_pos h, if_neg (by omega), wrap_nat (by omega)]
      obtain ⟨r, e, h2⟩ := ih k (i + 1) (b - ((l[i]).length : Int)) (by omega) (by omega) (by omega) (by omega)
      refine ⟨r, e, h2.imp id fun h2 => ?_⟩
      simp only [tot, List.map_cons, List.sum_cons] at h2 ⊢
      omega
    · rw [if_neg h, if_pos (by omega)]
      exact ⟨_, rfl, Or.inl (by omega)⟩
theorem szBox_eq (D : Int) (l : List (List Int)) (hl : ∀ x ∈ l, x.length ≤ maxLen) (hm : l.length ≤ maxLen) (k : Nat) (hk : l.length < k) :
    ∃ r, laws_szBoxBox.f k D l 1048576 = some r ∧ (r < 0 ∨ (tot l ≤ 1048576 ∧ l.length ≤ 1048576)) := by
  have : maxLen = 9223372036854775807 := rfl
  unfold laws_szBoxBox.f laws_szByteSS.f
  rw [wrap_in (by omega) (by omega)]
  by_cases h : (1048576 : Int) - (l.length : Int) < 0
  · rw [if_pos h]
    exact ⟨_, rfl, Or.inl (by omega)⟩
  · rw [if_neg h]
    obtain ⟨r, e, h2⟩ := sz2_loop l hl (by omega) l.length k 0 (1048576 - (l.length : Int)) (by omega) hk (by omega) (by omega)
    rw [show ((0 : Nat) : Int) = 0 from rfl] at e
    rw [e, Option.bind_some]
    by_cases hr : r < 0
    · rw [if_pos hr]
      exact ⟨_, rfl, Or.inl (by omega)⟩
    · rw [if_neg hr]
      exact ⟨_, rfl, Or.inr ⟨by have := h2.resolve_left hr; simp only [List.drop_zero] at this; omega, by omega⟩⟩
theorem small_of_tot (l : List (List Int)) (h : tot l ≤ 1048576) : Small l := fun x hx => by
  obtain ⟨i, hi, rfl⟩ := List.getElem_of_mem hx
  have := len_tot l i hi
  omega

theorem to_any (w : World) (D : Int) (A : Option Addr) (c : Nat) (l : List (List Int)) (hs : Small l) (hL : l.length ≤ 1048576) (hc : l.length ≤ c) (hr : Kd.C KB w A l.length l) (W : World) (hB : Below w.heap.size w W) :
    Calls Try.prog 22 #[.agg #[.int .i64 D, .slice A l.length c]] W fun e W' => ∃ A2 c2, e = .returned (.agg #[.int .i64 D, .slice A2 l.length c2]) ∧ Ow w.heap.size W' (Iv (fun _ => True) W.heap.size W'.heap.size) (.slice A2 l.length c2) l ∧ Below W.heap.size W W' := by
  refine (laws_toBoxBox.calls (l.length + 1048580) D A c l D l W (Kd.C_below hr hB) hc (by
    unfold laws_toBoxBox.f
    rw [toByteSS_eq l hs hL _ (by omega)]
    rfl)).mono ?_
  rintro e W' ⟨v, rfl, hS, hb⟩
  obtain ⟨A2, c2, rfl⟩ := Kd.S_slice hS
  exact ⟨A2, c2, rfl, Ow.new hS hB.size, hb⟩
theorem tob_any (w : World) (A : Option Addr) (c : Nat) (l : List Int) (hL : l.length ≤ 1048576) (hc : l.length ≤ c) (hr : Kd.C (Kd.int .u8) w A l.length l) (W : World) (hB : Below w.heap.size w W) :
    Calls Try.prog 29 #[.slice A l.length c] W fun e W' => ∃ A2 c2, e = .returned (.slice A2 l.length c2) ∧ Ob w.heap.size W' (Iv (fun _ => True) W.heap.size W'.heap.size) (.slice A2 l.length c2) l ∧ Below W.heap.size W W' := by
  refine (laws_toByteS.calls (l.length + 1) A c l l W (Kd.C_below hr hB) hc (toByteS_eq l hL _ (by omega))).mono ?_
  rintro e W' ⟨v, rfl, hS, hb⟩
  obtain ⟨A2, c2, rfl⟩ := Kd.R_slice hS
  exact ⟨A2, c2, rfl, Ob.new hS hB.size, hb⟩
theorem eq_any (N : Nat) (D : Int) (l : List (List Int)) (hs : Small l) (hL : l.length ≤ 1048576) (W : World) (P0 : Nat → Prop) (A0 : Option Addr) (c0 : Nat) (P1 : Nat → Prop) (A1 : Option Addr) (c1 : Nat) (h0 : Ow N W P0 (.slice A0 l.length c0) l) (h1 : Ow N W P1 (.slice A1 l.length c1) l) :
    Calls Try.prog 23 #[.agg #[.int .i64 D, .slice A0 l.length c0], .agg #[.int .i64 D, .slice A1 l.length c1]] W fun e W' => e = .returned (.bool true) ∧ Below W.heap.size W W' :=
  laws_eqBoxBox.calls (l.length + 1048580) D A0 c0 l D A1 c1 l true W h0.C.2.2 h0.C.2.1 h1.C.2.2 h1.C.2.1 (by
    unfold laws_eqBoxBox.f
    rw [if_pos rfl, eqByteSS_self l hs hL _ (by omega)]
    rfl)
theorem eqb_any (N : Nat) (l : List Int) (hL : l.length ≤ 1048576) (W : World) (P0 : Nat → Prop) (A0 : Option Addr) (c0 : Nat) (P1 : Nat → Prop) (A1 : Option Addr) (c1 : Nat) (h0 : Ob N W P0 (.slice A0 l.length c0) l) (h1 : Ob N W P1 (.slice A1 l.length c1) l) :
    Calls Try.prog 24 #[.slice A0 l.length c0, .slice A1 l.length c1] W fun e W' => e = .returned (.bool true) ∧ Below W.heap.size W W' := by
  refine (laws_eqByteS.calls (l.length + 1) A0 c0 l A1 c1 l true W h0.C.2.2 h0.C.2.1 h1.C.2.2 h1.C.2.1 (eqByteS_self l hL _ (by omega))).mono ?_
  rintro e W' ⟨rfl, hd⟩
  exact ⟨rfl, hd.below⟩
theorem held_any (N : Nat) (D : Int) (l : List (List Int)) (ht : tot l ≤ 1048600) (hL : l.length ≤ 1048576) (hs : Small l) (W : World) (P0 : Nat → Prop) (A0 : Option Addr) (c0 : Nat) (h0 : Ow N W P0 (.slice A0 l.length c0) (marks 1 l)) :
    Calls Try.prog 27 #[.agg #[.int .i64 D, .slice A0 l.length c0], .int .i64 1] W fun e W' => e = .returned (.int .i64 (1 + (tot l : Int))) ∧ Below W.heap.size W W' := by
  have h := laws_heldBoxBox.calls (l.length + 1048700) D A0 c0 (marks 1 l) 1 (1 + (tot l : Int)) W h0.C.2.2 (by rw [marks_length]; exact h0.C.2.1) (by
    unfold laws_heldBoxBox.f
    rw [heldSS_eq l 1 (by omega) ht (by omega) hs (by omega) _ (by omega)]
    simp only [Option.bind_some]
    rw [if_neg (by omega)])
  rwa [marks_length] at h
theorem heldb_any (N : Nat) (l : List Int) (a : Int) (ha : 0 ≤ a) (ha1 : a ≤ 100000000) (hL : l.length ≤ 1048576) (W : World) (P0 : Nat → Prop) (A0 : Option Addr) (c0 : Nat) (h0 : Ob N W P0 (.slice A0 l.length c0) (from_ a l.length)) :
    Calls Try.prog 28 #[.slice A0 l.length c0, .int .i64 a] W fun e W' => e = .returned (.int .i64 (a + (l.length : Int))) ∧ Below W.heap.size W W' := by
  have h := laws_heldByteS.calls (l.length + 1) A0 c0 (from_ a l.length) a _ W h0.C.2.2 (by rw [from_length]; exact h0.C.2.1) (heldByte_eq l.length a ha hL ha1 _ (by omega))
  rw [from_length] at h
  refine h.mono ?_
  rintro e W' ⟨rfl, hd⟩
  exact ⟨rfl, hd.below⟩
end Go.Proofs.YtekeehhbalhfiaaBoxEx
