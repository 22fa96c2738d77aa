/- markByteSS and markBoxBox: they write numbers into a row of byte rows, row by row, and into nothing else. Conditions: rows of the call's own, apart from each other, of bounded length. -/
import Derived.Test.YtekeehhbalhfiaaBoxTak
import Derived.Test.YtekeehhbalhfiaaPBoxEx
set_option linter.unusedVariables false
set_option linter.unusedSimpArgs false
namespace Go.Proofs.YtekeehhbalhfiaaBoxMark
open Go.RowKit Go.Proofs.YtekeehhbalhfiaaW.PrintWords Go.Proofs.YtekeehhbalhfiaaPl Go.Proofs.Ytekeehhbalhfiaa.PBoxEx

/-- 'so many numbers, one behind the other'. -/
def from_ (a : Int) (n : Nat) : List Int := (List.range n).map fun (i : Nat) => (a + (i : Int)) % 256
theorem markByte_loop (l : List Int) (a : Int) (ha : 0 ≤ a) (hl : l.length ≤ 1048576) (ha1 : a ≤ 100000000) : ∀ (d k i : Nat) (y : List Int), i + d = l.length → y.length = l.length → d < k →
    laws_markByteS.l0 k y (a + (i : Int)) (i : Int) = some (a + (l.length : Int), y.take i ++ from_ (a + (i : Int)) d) := by
  intro d
  induction d with
  | zero =>
    intro k i y hi hy hk
    obtain ⟨k, rfl⟩ : ∃ m, k = m + 1 := ⟨k - 1, by omega⟩
    simp only [laws_markByteS.l0]
    rw [if_neg (by omega), List.take_of_length_le (by omega)]
    obtain rfl : i = l.length := by omega
    simp [from_]
  | succ d ih =>
    intro k i y hi hy hk
    obtain ⟨k, rfl⟩ : ∃ m, k = m + 1 := ⟨k - 1, by omega⟩
    simp only [laws_markByteS.l0]
    rw [if_pos (by omega), if_pos (by omega), wrap_nat (by omega), wrap_in (by omega) (by omega), show a + (i : Int) + 1 = a + ((i + 1 : Nat) : Int) by omega, ih k (i + 1) _ (by omega) (by rw [List.length_set]; exact hy) (by omega)]
    congr 2
    rw [List.take_succ_eq_append_getElem (by rw [List.length_set]; omega), List.append_assoc]
    have e1 : ((i : Int).toNat) = i := by omega
    simp only [e1]
    rw [List.getElem_set_self, List.take_set_of_le (Nat.le_refl i)]
    congr 1
    unfold from_
    rw [List.range_succ_eq_map, List.map_cons, List.map_map, List.singleton_append]
    congr 1
    · omega
    · apply List.map_congr_left
      intro j _
      simp only [Function.comp]
      omega
theorem markByte_eq (l : List Int) (a : Int) (ha : 0 ≤ a) (hl : l.length ≤ 1048576) (ha1 : a ≤ 100000000) (k : Nat) (hk : l.length < k) : laws_markByteS.f k l a = some (a + (l.length : Int), from_ a l.length) := by
  have h := markByte_loop l a ha hl ha1 l.length k 0 l (by omega) rfl hk
  unfold laws_markByteS.f
  simp only [List.take_zero, List.nil_append, Int.add_zero, Int.natCast_zero] at h
  exact h
theorem from_length (a : Int) (n : Nat) : (from_ a n).length = n := by simp [from_]

def tot (l : List (List Int)) : Nat := (l.map List.length).sum
def marks : Int → List (List Int) → List (List Int)
  | _, [] => []
  | a, x :: l => from_ a x.length :: marks (a + (x.length : Int)) l
theorem marks_length : ∀ (l : List (List Int)) (a : Int), (marks a l).length = l.length
  | [], _ => rfl
  | x :: l, a => by simp [marks, marks_length l]
theorem tot_snoc (l : List (List Int)) (x : List Int) : tot (l ++ [x]) = tot l + x.length := by simp [tot]
theorem marks_snoc : ∀ (l : List (List Int)) (x : List Int) (a : Int), marks a (l ++ [x]) = marks a l ++ [from_ (a + (tot l : Int)) x.length]
  | [], x, a => by simp [marks, tot]
  | y :: l, x, a => by
    have h := marks_snoc l x (a + (y.length : Int))
    simp only [List.cons_append, marks, h]
    rw [show a + (y.length : Int) + (tot l : Int) = a + (tot (y :: l) : Int) by simp [tot]; omega]
def cur (a : Int) (L : List (List Int)) (i : Nat) : List (List Int) := marks a (L.take i) ++ L.drop i
theorem cur_length (a : Int) (L : List (List Int)) (i : Nat) (hi : i ≤ L.length) : (cur a L i).length = L.length := by
  simp [cur, marks_length]
  omega
theorem cur_at (a : Int) (L : List (List Int)) (i : Nat) (hi : i < L.length) : (cur a L i).getD i [] = L[i] := by
  unfold cur
  rw [List.getD_eq_getElem?_getD, List.getElem?_append_right (by rw [marks_length, List.length_take]; omega), marks_length, List.length_take, show min i L.length = i by omega, Nat.sub_self, List.getElem?_drop, Nat.add_zero, List.getElem?_eq_getElem hi]
  rfl
theorem take_snoc (L : List (List Int)) (i : Nat) (hi : i < L.length) : L.take (i + 1) = L.take i ++ [L[i]] := List.take_succ_eq_append_getElem hi
theorem cur_set (a : Int) (L : List (List Int)) (i : Nat) (hi : i < L.length) : (cur a L i).set i (from_ (a + (tot (L.take i) : Int)) (L[i]).length) = cur a L (i + 1) := by
  unfold cur
  rw [List.set_append_right _ _ (by rw [marks_length, List.length_take]; omega), marks_length, List.length_take, show i - min i L.length = 0 by omega, List.drop_eq_getElem_cons hi, List.set_cons_zero, take_snoc L i hi, marks_snoc, List.append_assoc]
  rfl
theorem tot_le (L : List (List Int)) (b : Nat) (h : ∀ x ∈ L, x.length ≤ b) : tot L ≤ L.length * b := by
  induction L with
  | nil => simp [tot]
  | cons x L ih =>
    have h1 := h x (List.mem_cons_self ..)
    have h2 := ih (fun y hy => h y (List.mem_cons_of_mem _ hy))
    simp only [tot, List.map_cons, List.sum_cons, List.length_cons, Nat.succ_mul] at *
    omega

abbrev KB : Kd (List Int) := Kd.slice 5 (Kd.int .u8)
/-- A row of byte rows, none of two of which share a block; all its blocks are within these bounds. -/
def Own (W : World) (a b : Nat) (v : Value) (l : List (List Int)) : Prop := Kd.S KB 22 W a (fun k => a ≤ k ∧ k < b) v l ∧ b ≤ W.heap.size

theorem row_back {W w1 : World} {base : Nat} {ok : Nat → Prop} {g n cap : Nat} {xs : List (List Int)} {i : Int} {oki : Nat → Prop} {v : Value} {x x' : List Int} (hv : Kd.R (Kd.int .u8) 5 W base oki v x) (hH : Kd.H KB 22 W base ok (.slice (some ⟨g, 0, none⟩) n cap) xs i oki [v]) (hv1 : Kd.R (Kd.int .u8) 5 w1 base (fun k => oki k ∨ W.heap.size ≤ k) v x') (hk : Kept W w1 (fun k => oki k)) : Kd.S KB 22 w1 base ok (.slice (some ⟨g, 0, none⟩) n cap) (xs.set i.toNat x') :=
  Kd.H_back (okp := fun k => some k = v.ownBlock) (Kd.H_kept hH hk (fun k _ h => h)) ⟨v, rfl, Kd.R_tight rfl hv1⟩ (fun k hk => hv.1 k hk.symm)

/-- Blocks of Q between two bounds. -/
def Iv (Q : Nat → Prop) (a b : Nat) (k : Nat) : Prop := Q k ∧ a ≤ k ∧ k < b
theorem Iv.apart {Q Q1 : Nat → Prop} {a b a1 b1 : Nat} (h : b ≤ a1 ∨ b1 ≤ a) : ∀ k, Iv Q a b k → ¬ Iv Q1 a1 b1 k := fun k h1 h2 => by
  have := h1.2
  have := h2.2
  omega
/-- A row of byte rows of the call's own: its blocks. -/
def Ow (N : Nat) (W : World) (P : Nat → Prop) (v : Value) (l : List (List Int)) : Prop := Kd.S KB 22 W N P v l ∧ ∀ k, P k → k < W.heap.size
theorem Ow.below {N : Nat} {W W1 : World} {P : Nat → Prop} {v : Value} {l : List (List Int)} (h : Ow N W P v l) (hb : Below W.heap.size W W1) : Ow N W1 P v l := ⟨Kd.S_below h.1 hb, fun k hk => Nat.lt_of_lt_of_le (h.2 k hk) hb.size⟩
theorem Ow.kept {N : Nat} {W W1 : World} {P S : Nat → Prop} {v : Value} {l : List (List Int)} (h : Ow N W P v l) (hk : Kept W W1 S) (hne : ∀ k, P k → ¬ S k) : Ow N W1 P v l := ⟨Kd.S_kept h.1 hk hne, fun k hp => Nat.lt_of_lt_of_le (h.2 k hp) hk.1⟩
theorem Ow.new {N : Nat} {W W1 : World} {v : Value} {l : List (List Int)} {P : Nat → Prop} (h : Kd.S KB 22 W1 W.heap.size P v l) (hN : N ≤ W.heap.size) : Ow N W1 (Iv P W.heap.size W1.heap.size) v l := ⟨Kd.S_mono (Kd.S_lower (Kd.S_bound h) hN) (fun k hk => ⟨hk.1, hk.2.1, hk.2.2.1⟩), fun k hk => hk.2.2⟩
theorem Ow.C {N : Nat} {W : World} {P : Nat → Prop} {A : Option Addr} {n c : Nat} {l : List (List Int)} (h : Ow N W P (.slice A n c) l) : n = l.length ∧ n ≤ c ∧ Kd.C KB W A l.length l := Kd.S_reads' h.1
theorem Ow.slice {N : Nat} {W : World} {P : Nat → Prop} {v : Value} {l : List (List Int)} (h : Ow N W P v l) : ∃ A c, v = .slice A l.length c := Kd.S_slice h.1
/-- A byte row of the call's own: its blocks. -/
def Ob (N : Nat) (W : World) (P : Nat → Prop) (v : Value) (l : List Int) : Prop := Kd.R (Kd.int .u8) 5 W N P v l ∧ ∀ k, P k → k < W.heap.size
theorem Ob.below {N : Nat} {W W1 : World} {P : Nat → Prop} {v : Value} {l : List Int} (h : Ob N W P v l) (hb : Below W.heap.size W W1) : Ob N W1 P v l := ⟨Kd.R_below h.1 hb, fun k hk => Nat.lt_of_lt_of_le (h.2 k hk) hb.size⟩
theorem Ob.kept {N : Nat} {W W1 : World} {P S : Nat → Prop} {v : Value} {l : List Int} (h : Ob N W P v l) (hk : Kept W W1 S) (hne : ∀ k, P k → ¬ S k) : Ob N W1 P v l := ⟨Kd.R_kept h.1 hk hne, fun k hp => Nat.lt_of_lt_of_le (h.2 k hp) hk.1⟩
theorem Ob.new {N : Nat} {W W1 : World} {v : Value} {l : List Int} {P : Nat → Prop} (h : Kd.R (Kd.int .u8) 5 W1 W.heap.size P v l) (hN : N ≤ W.heap.size) : Ob N W1 (Iv P W.heap.size W1.heap.size) v l := ⟨Kd.R_mono (Kd.R_lower (Kd.R_bound h) hN) (fun k hk => ⟨hk.1, hk.2.1, hk.2.2.1⟩), fun k hk => hk.2.2⟩
theorem Ob.C {N : Nat} {W : World} {P : Nat → Prop} {A : Option Addr} {n c : Nat} {l : List Int} (h : Ob N W P (.slice A n c) l) : n = l.length ∧ n ≤ c ∧ Kd.C (Kd.int .u8) W A l.length l := Kd.R_reads' h.1
theorem Ob.slice {N : Nat} {W : World} {P : Nat → Prop} {v : Value} {l : List Int} (h : Ob N W P v l) : ∃ A c, v = .slice A l.length c := Kd.R_slice h.1
theorem Ob.tight {N : Nat} {W : World} {P : Nat → Prop} {v : Value} {l : List Int} (h : Ob N W P v l) : Ob N W (fun k => some k = v.ownBlock) v l := ⟨Kd.R_tight rfl h.1, fun k hk => h.2 k (h.1.1 k hk.symm)⟩

theorem markOne_any (w W : World) (P : Nat → Prop) (A : Option Addr) (n c : Nat) (l : List Int) (a : Int) (hB : Below w.heap.size w W) (h : Ob w.heap.size W P (.slice A n c) l) (ha : 0 ≤ a) (hl : l.length ≤ 1048576) (ha1 : a ≤ 100000000) :
    Calls Try.prog 26 #[.slice A n c, .int .i64 a] W fun e W' => e = .returned (.int .i64 (a + (l.length : Int))) ∧ Ob w.heap.size W' P (.slice A n c) (from_ a l.length) ∧ Kept W W' P ∧ Below w.heap.size w W' := by
  refine (laws_markByteS.calls (l.length + 1) P (.slice A n c) l a _ _ w W hB h.1 (markByte_eq l a ha hl ha1 _ (by omega))).mono ?_
  rintro e W' ⟨rfl, hR, hb, hk⟩
  exact ⟨rfl, ⟨Kd.R_mono (Kd.R_tight rfl hR) (fun k hk => h.1.1 k hk.symm), fun k hp => Nat.lt_of_lt_of_le (h.2 k hp) hk.1⟩, hk, hb⟩
/-- Held numbers, told by the loop. -/
theorem heldByte_loop (n : Nat) (a : Int) (ha : 0 ≤ a) (hl : n ≤ 1048576) (ha1 : a ≤ 100000000) : ∀ (d k i : Nat), i + d = n → d < k →
    laws_heldByteS.l0 k (from_ a n) (a + (i : Int)) (i : Int) = some (a + (n : Int)) := by
  intro d
  induction d with
  | zero =>
    intro k i hi hk
    obtain ⟨k, rfl⟩ : ∃ m, k = m + 1 := ⟨k - 1, by omega⟩
    simp only [laws_heldByteS.l0, from_length]
    rw [if_neg (by omega)]
    obtain rfl : i = n := by omega
    rfl
  | succ d ih =>
    intro k i hi hk
    obtain ⟨k, rfl⟩ : ∃ m, k = m + 1 := ⟨k - 1, by omega⟩
    have hr : rd (from_ a n) (i : Int) = (a + (i : Int)) % 256 := by
      rw [rd_nat _ _ (by rw [from_length]; omega)]
      simp [from_]
    simp only [laws_heldByteS.l0, from_length]
    rw [if_pos (by omega), if_pos (by omega), if_pos hr, wrap_nat (by omega), wrap_in (by omega) (by omega), show a + (i : Int) + 1 = a + ((i + 1 : Nat) : Int) by omega]
    exact ih k (i + 1) (by omega) (by omega)
theorem heldByte_eq (n : Nat) (a : Int) (ha : 0 ≤ a) (hl : n ≤ 1048576) (ha1 : a ≤ 100000000) (k : Nat) (hk : n < k) : laws_heldByteS.f k (from_ a n) a = some (a + (n : Int)) := by
  have h := heldByte_loop n a ha hl ha1 n k 0 (by omega) hk
  unfold laws_heldByteS.f
  simpa using h
theorem rdM_nat (L : List (List Int)) (i : Nat) (h : i < L.length) : rd_L1 L (i : Int) = L[i] := by
  unfold rd_L1
  rw [show ((i : Int)).toNat = i from rfl, List.getD_eq_getElem?_getD, List.getElem?_eq_getElem h]
  rfl
theorem marks_at (a : Int) (L : List (List Int)) (i : Nat) (hi : i < L.length) : rd_L1 (marks a L) (i : Int) = from_ (a + (tot (L.take i) : Int)) (L[i]).length := by
  have h1 := cur_set a L i hi
  have e : marks a L = marks a (L.take (i + 1)) ++ marks (a + (tot (L.take (i + 1)) : Int)) (L.drop (i + 1)) := by
    have gen : ∀ (l1 l2 : List (List Int)) (a : Int), marks a (l1 ++ l2) = marks a l1 ++ marks (a + (tot l1 : Int)) l2 := by
      intro l1
      induction l1 with
      | nil => intro l2 a; simp [marks, tot]
      | cons y l1 ih =>
        intro l2 a
        simp only [List.cons_append, marks, ih]
        rw [show a + (y.length : Int) + (tot l1 : Int) = a + (tot (y :: l1) : Int) by simp [tot]; omega]
    rw [← gen, List.take_append_drop]
  rw [rdM_nat _ _ (by rw [marks_length]; exact hi)]
  have e2 : (marks a L)[i]? = some (from_ (a + (tot (L.take i) : Int)) (L[i]).length) := by
    rw [e, List.getElem?_append_left (by rw [marks_length, List.length_take]; omega), take_snoc L i hi, marks_snoc, List.getElem?_append_right (by rw [marks_length, List.length_take]; omega), marks_length, List.length_take, show i - min i L.length = 0 by omega]
    rfl
  exact Option.some.inj ((List.getElem?_eq_getElem _).symm.trans e2)
theorem tot_take (L : List (List Int)) (i : Nat) (hi : i < L.length) : tot (L.take (i + 1)) = tot (L.take i) + (L[i]).length := by rw [take_snoc L i hi, tot_snoc]
theorem tot_mono (L : List (List Int)) (i : Nat) : tot (L.take i) ≤ tot L := by
  have : tot L = tot (L.take i) + tot (L.drop i) := by
    conv => lhs; rw [← List.take_append_drop i L]
    simp only [tot, List.map_append, List.sum_append]
  omega
theorem len_tot (L : List (List Int)) (i : Nat) (hi : i < L.length) : (L[i]).length ≤ tot L := by
  have h1 := tot_mono L (i + 1)
  have h2 := tot_take L i hi
  omega
theorem heldSS_loop (L : List (List Int)) (a : Int) (ha : 0 ≤ a) (hl : tot L ≤ 1048600) (hn : L.length ≤ 1048600) (hx : ∀ x ∈ L, x.length ≤ 1048576) (ha1 : a ≤ 10) : ∀ (d k i : Nat), i + d = L.length → d + 1048600 < k →
    laws_heldByteSS.l0 k (marks a L) (a + (tot (L.take i) : Int)) (i : Int) = some (a + (tot L : Int)) := by
  intro d
  induction d with
  | zero =>
    intro k i hi hk
    obtain ⟨k, rfl⟩ : ∃ m, k = m + 1 := ⟨k - 1, by omega⟩
    simp only [laws_heldByteSS.l0, marks_length]
    rw [if_neg (by omega), List.take_of_length_le (by omega)]
  | succ d ih =>
    intro k i hi hk
    obtain ⟨k, rfl⟩ : ∃ m, k = m + 1 := ⟨k - 1, by omega⟩
    have h1 := tot_mono L (i + 1)
    have h2 := tot_take L i (by omega)
    simp only [laws_heldByteSS.l0, marks_length]
    rw [if_pos (by omega), if_pos (by omega), marks_at a L i (by omega), heldByte_eq _ _ (by omega) (hx _ (List.getElem_mem _)) (by omega) _ (by omega)]
    simp only [Option.bind_some]
    rw [if_neg (by omega), wrap_nat (by omega), show a + (tot (L.take i) : Int) + ((L[i]).length : Int) = a + (tot (L.take (i + 1)) : Int) by omega]
    exact ih k (i + 1) (by omega) (by omega)
theorem heldSS_eq (L : List (List Int)) (a : Int) (ha : 0 ≤ a) (hl : tot L ≤ 1048600) (hn : L.length ≤ 1048600) (hx : ∀ x ∈ L, x.length ≤ 1048576) (ha1 : a ≤ 10) (k : Nat) (hk : L.length + 1048600 < k) : laws_heldByteSS.f k (marks a L) a = some (a + (tot L : Int)) := by
  have h := heldSS_loop L a ha hl hn hx ha1 L.length k 0 (by omega) hk
  unfold laws_heldByteSS.f
  simpa [tot] using h
def MRel (N : Nat) (P : Nat → Prop) (v : Value) (L : List (List Int)) (a : Int) (w W : World) (k : Nat) (wr : World) : Prop := Ow N wr P v (cur a L k) ∧ Kept W wr P ∧ Below N w wr

set_option maxRecDepth 100000 in
set_option maxHeartbeats 4000000 in
theorem markSS_any (w : World) (L : List (List Int)) (a : Int) (ha : 0 ≤ a) (ha1 : a ≤ 10) (ht : tot L ≤ 1048600) (hL : L.length ≤ 1048576) (hs : ∀ x ∈ L, x.length ≤ 1048576) (W : World) (P : Nat → Prop) (A : Option Addr) (c : Nat) (hB : Below w.heap.size w W) (h : Ow w.heap.size W P (.slice A L.length c) L) :
    Calls Try.prog 47 #[.slice A L.length c, .int .i64 a] W fun e W' => e = .returned (.int .i64 (a + (tot L : Int))) ∧ Ow w.heap.size W' P (.slice A L.length c) (marks a L) ∧ Kept W W' P ∧ Below w.heap.size w W' := by
  have H := Aside0.mk h
  have HB := Aside0.mk hB
  have HS := Aside0.mk hs
  obtain ⟨n, hn⟩ : ∃ n, n = L.length := ⟨_, rfl⟩
  rw [← hn] at H hL ⊢
  have HN := Aside0.mk hn
  clear h hB hs hn
  go_enter Try.func47, Try.ntmps47
  go_wp2
  go_loopw [1, 5] (fun v1 v5 wr => ∃ k : Nat, k ≤ n ∧ v1 = .int .i64 (a + (tot (L.take k) : Int)) ∧ v5 = .int .i64 k ∧ Aside0 (MRel w.heap.size P (.slice A n c) L a w W k wr)) (fun _ v5 _ => n - (intOf v5).toNat)
  case atStart =>
    exact ⟨0, Nat.zero_le _, by simp [tot], rfl, ⟨by simpa [cur, marks] using H.out, Kept.refl _ _, HB.out⟩⟩
  case round =>
    obtain ⟨k, hk, rfl, rfl, HR⟩ := hrel
    by_cases hlt : k < n
    · obtain ⟨hO, hK, hBr⟩ := HR.out
      have hcl := cur_length a L k (by rw [← HN.out]; omega)
      obtain ⟨g, cap, e, -, hglt, -⟩ := Kd.S_form hO.1 (by rw [hcl, ← HN.out]; omega)
      injection e with e1 e2 e3
      subst e1
      clear e2 e3 cap
      obtain ⟨oki, cs, -, hM, hcc, -, hoki, hH⟩ := Kd.S_elem hO.1 [] (k : Int) (by omega) (by omega)
      obtain ⟨v, rfl, hv⟩ := hM
      have hx := hcc 0 v rfl
      rw [show ((k : Int)).toNat = k from rfl] at hx hv
      rw [cur_at a L k (by rw [← HN.out]; exact hlt)] at hv
      have hx' : wr.cell? ⟨g, k, none⟩ = some v := by simpa [Kd.slice] using hx
      obtain ⟨x, hxx⟩ : ∃ x, x = L[k]'(by rw [← HN.out]; exact hlt) := ⟨_, rfl⟩
      rw [← hxx] at hv
      obtain ⟨A0, c0, rfl⟩ := Kd.R_slice hv
      have h8 := HS.out x (by rw [hxx]; exact List.getElem_mem _)
      have hset := cur_set a L k (by rw [← HN.out]; exact hlt)
      rw [← hxx] at hset
      have htk := tot_take L k (by rw [← HN.out]; exact hlt)
      rw [← hxx] at htk
      have htm := tot_mono L (k + 1)
      have HX := Aside0.mk hxx
      have HO := Aside0.mk hO
      have HK := Aside0.mk hK
      have HBr := Aside0.mk hBr
      have HV := Aside0.mk hv
      have HH := Aside0.mk hH
      have HSET := Aside0.mk hset
      have HTK := Aside0.mk htk
      have HTM := Aside0.mk htm
      have H8 := Aside0.mk h8
      have HOK := Aside0.mk hoki
      obtain ⟨tk, htk'⟩ : ∃ t : Nat, t = tot (L.take k) := ⟨_, rfl⟩
      have HTT := Aside0.mk htk'
      simp only [← htk'] at HSET HTK ⊢
      clear hxx hO hK hBr hv hH hset htk htm h8 hoki hcl htk' hx hcc
      go_wp2_with (go_at_call 26; refine (markOne_any w wr oki A0 x.length c0 x (a + (tk : Int)) HBr.out ⟨HV.out, fun b hb => HO.out.2 b (HOK.out b hb).1⟩ (by omega) H8.out (by have := HTK.out; have := HTM.out; omega)).mono ?_; rintro e w1 ⟨rfl, hR, hk1, hb1⟩; have HR1 := Aside0.mk hR; have HK1 := Aside0.mk hk1; have HB1 := Aside0.mk hb1; clear hR hk1 hb1)
      go_roundw
      case rel =>
        refine ⟨k + 1, by omega, by rw [HTK.out]; go_num, by go_num, ?_⟩
        have hrow := row_back HV.out HH.out (Kd.R_mono HR1.out.1 (fun b hb => .inl hb)) HK1.out
        rw [show ((k : Int)).toNat = k from rfl, HSET.out] at hrow
        exact ⟨⟨⟨hrow, fun b hb => Nat.lt_of_lt_of_le (HO.out.2 b hb) HK1.out.1⟩, HK.out.then_ HK1.out (fun b hb => .inl (HOK.out b hb).1), HB1.out⟩⟩
      case measure => simp [intOf]; omega
    · obtain rfl : k = n := by omega
      have e1 : L.take k = L := List.take_of_length_le (Nat.le_of_eq HN.out.symm)
      have e2 : cur a L k = marks a L := by
        unfold cur
        rw [e1, List.drop_of_length_le (Nat.le_of_eq HN.out.symm), List.append_nil]
      rw [e1]
      have HR2 := Aside0.mk HR.out
      unfold MRel at HR2
      rw [e2] at HR2
      clear e1 e2 HR
      go_wp2
      go_ret
      exact ⟨rfl, HR2.out⟩

set_option maxRecDepth 100000 in
set_option maxHeartbeats 4000000 in
theorem markBox_any (w : World) (D : Int) (L : List (List Int)) (a : Int) (ha : 0 ≤ a) (ha1 : a ≤ 10) (ht : tot L ≤ 1048600) (hL : L.length ≤ 1048576) (hs : ∀ x ∈ L, x.length ≤ 1048576) (W : World) (P : Nat → Prop) (A : Option Addr) (c : Nat) (hB : Below w.heap.size w W) (h : Ow w.heap.size W P (.slice A L.length c) L) :
    Calls Try.prog 25 #[.agg #[.int .i64 D, .slice A L.length c], .int .i64 a] W fun e W' => e = .returned (.int .i64 (a + (tot L : Int))) ∧ Ow w.heap.size W' P (.slice A L.length c) (marks a L) ∧ Kept W W' P ∧ Below w.heap.size w W' := by
  have H := Aside0.mk h
  have HM := Aside0.mk (fun W1 (hb : Below W.heap.size W W1) => markSS_any w L a ha ha1 ht hL hs W1 P A c (hB.trans (hb.mono hB.size)) (h.below hb))
  obtain ⟨n, hn⟩ : ∃ n, n = L.length := ⟨_, rfl⟩
  obtain ⟨t, htt⟩ : ∃ t : Int, t = (tot L : Int) := ⟨_, rfl⟩
  simp only [← hn, ← htt] at HM ⊢
  clear h hB hs hn htt ht hL H
  go_enter Try.func25, Try.ntmps25
  go_wp2_with (go_at_call 47; refine (HM.out _ ((Below.refl _ _).alloc (Nat.le_refl _) _)).mono ?_; rintro e w1 ⟨rfl, hO, hk, hb⟩; have HR := Aside0.mk (And.intro hO (And.intro (Kept.then_ (Kept.of_below ((Below.refl W.heap.size W).alloc (Nat.le_refl _) _) P) hk (fun _ h => .inl h)) hb)); clear hO hk hb)
  go_ret
  exact ⟨rfl, HR.out⟩

end Go.Proofs.YtekeehhbalhfiaaBoxMark
