/- The walk of spec.DrawVmGive: whatever the order of what it draws, it hands back a machine, an ask, a message and a bool. Conditions: what the draws that it calls answer. -/
import Derived.Test.YtcnipdbommmkmaaPVgx7
import Derived.Test.YtcnipdbommmkmaaPVgx8
import Derived.Test.YtcnipdbommmkmaaVPl
set_option linter.unusedVariables false
set_option linter.unusedSimpArgs false
namespace Go.Proofs.YtcnipdbommmkmaaVgDraw
open Go.RowKit Go.Proofs.YtcnipdbommmkmaaW.PrintWords Go.Proofs.YtcnipdbommmkmaaW.PrintLast Go.Proofs.YtcnipdbommmkmaaW.PrintMore Go.Proofs.YtcnipdbommmkmaaAl Go.Proofs.YtcnipdbommmkmaaSq Go.Proofs.Ytcnipdbommmkmaa.PVg Go.Proofs
def T3 : Bool × List (List Nat × List Nat) := (true, [([], []), ([0], [0]), ([], []), ([2, 1], [2]), ([], []), ([], []), ([5, 3], [5]), ([4, 6], [4, 6]), ([7], [7]), ([], []), ([9, 6], [9]), ([], []), ([11, 10], [11]), ([1, 3, 8, 10, 12], [1, 3, 8, 10, 12]), ([], []), ([14, 13, 12, 0, 1, 2, 3, 4, 5, 6, 7, 8, 9, 10, 11, 12, 13, 14], [13, 14])])
def B3 : List Nat := [0, 1, 0, 7, 0, 0, 47, 127, 255, 0, 623, 0, 3695, 8191, 0, 32767]
theorem tab3 : rtab .any (opsOf Try.f44 3) = T3 := by kernel_rfl
theorem bits3 : waitsOk T3.2 B3 = true := by kernel_rfl
def T17 : Bool × List (List Nat × List Nat) := (true, [([], []), ([], []), ([], []), ([2], [2]), ([], []), ([4, 3], [4]), ([5], [5]), ([0, 5, 0], [0]), ([1, 7, 0, 1, 7], [1]), ([3, 8, 0, 1, 2, 3, 7, 8], [3]), ([6, 9, 0, 1, 2, 3, 4, 5, 6, 7, 8, 9], [6])])
def B17 : List Nat := [0, 0, 0, 4, 0, 28, 60, 61, 191, 447, 1023]
theorem tab17 : rtab .any (opsOf Try.f44 17) = T17 := by kernel_rfl
theorem bits17 : waitsOk T17.2 B17 = true := by kernel_rfl
/-- The boxes of the results, and the machine that was drawn. -/
def Hd (w W : World) (gA gB gC : Nat) (p h : Int) (v1 v2 : Value) (l1 l2 : List Int) : Prop :=
  W.heap[gA]? = some (.cells #[.int .i64 0, .slice none 0 0, .slice none 0 0, .int .i64 0] 30 (0, 0)) ∧ W.heap[gB]? = some (.cells #[.int .i64 0, .int .i64 0, .slice none 0 0, .int .i64 0, .int .i64 0, .int .i64 0] 33 (0, 0)) ∧ W.heap[gC]? = some (.cells #[.int .i64 p, v1, v2, .int .i64 h] 30 (0, 0)) ∧
  Kd.R (Kd.int .i64) 3 W w.heap.size (fun k_ => some k_ ≠ v2.ownBlock) v1 l1 ∧ Kd.R (Kd.int .i64) 3 W w.heap.size (fun k_ => some k_ ≠ v1.ownBlock) v2 l2
section
variable {w W W1 : World} {gA gB gC : Nat} {p h : Int} {v1 v2 : Value} {l1 l2 : List Int}
theorem Hd.below (H : Hd w W gA gB gC p h v1 v2 l1 l2) (hb : Below W.heap.size W W1) : Hd w W1 gA gB gC p h v1 v2 l1 l2 :=
  ⟨blk_below H.1 hb, blk_below H.2.1 hb, blk_below H.2.2.1 hb, Kd.R_below H.2.2.2.1 hb, Kd.R_below H.2.2.2.2 hb⟩
theorem Hd.keep {g : Nat} {s : List Int} {q : Int} (H : Hd w W gA gB gC p h v1 v2 l1 l2) (hi : IsS103 w W g s q) (hk : KeepBut W W1 g none) : Hd w W1 gA gB gC p h v1 v2 l1 l2 :=
  ⟨hk.blk H.1 (Ne.symm (hi.ne_blk H.1 (by decide))) (by simp), hk.blk H.2.1 (Ne.symm (hi.ne_blk H.2.1 (by decide))) (by simp), hk.blk H.2.2.1 (Ne.symm (hi.ne_blk H.2.2.1 (by decide))) (by simp),
    Kd.R_mono (Kd.R_keep (hi.apart H.2.2.2.1 (by decide)) hk (fun _ h => h.2)) (fun _ h => h.1), Kd.R_mono (Kd.R_keep (hi.apart H.2.2.2.2 (by decide)) hk (fun _ h => h.2)) (fun _ h => h.1)⟩
theorem Hd.far {x i : Nat} {u : Value} {cs : Array Value} {t : TypeId} (H : Hd w W gA gB gC p h v1 v2 l1 l2) (hx : W.heap[x]? = some (.cells cs t (0, 0))) (ht : t = 33) (nA : gA ≠ x) (nB : gB ≠ x) (nC : gC ≠ x) : Hd w (W.setCell ⟨x, i, none⟩ u) gA gB gC p h v1 v2 l1 l2 := by
  subst ht
  exact ⟨blk_far H.1 nA _, blk_far H.2.1 nB _, blk_far H.2.2.1 nC _, Kd.R_mono (qF (p := ⟨x, i, none⟩) (Kd.R_types H.2.2.2.1 hx (by decide)) (fun _ hk => hk.2) u) (fun _ h => h.1), Kd.R_mono (qF (p := ⟨x, i, none⟩) (Kd.R_types H.2.2.2.2 hx (by decide)) (fun _ hk => hk.2) u) (fun _ h => h.1)⟩
theorem Hd.init (hA : W.heap[gA]? = some (.cells #[.int .i64 0, .slice none 0 0, .slice none 0 0, .int .i64 0] 30 (0, 0))) (hB : W.heap[gB]? = some (.cells #[.int .i64 0, .int .i64 0, .slice none 0 0, .int .i64 0, .int .i64 0, .int .i64 0] 33 (0, 0))) (hC : W.heap[gC]? = some (.cells #[.int .i64 0, .slice none 0 0, .slice none 0 0, .int .i64 0] 30 (0, 0))) (nA : gA ≠ gC) (nB : gB ≠ gC)
    (h1 : Kd.R (Kd.int .i64) 3 W w.heap.size (fun k_ => some k_ ≠ v2.ownBlock) v1 l1) (h2 : Kd.R (Kd.int .i64) 3 W w.heap.size (fun k_ => some k_ ≠ v1.ownBlock) v2 l2) :
    Hd w ((((W.setCell ⟨gC, 0, none⟩ (.int .i64 p)).setCell ⟨gC, 1, none⟩ v1).setCell ⟨gC, 2, none⟩ v2).setCell ⟨gC, 3, none⟩ (.int .i64 h)) gA gB gC p h v1 v2 l1 l2 := by
  refine ⟨blk_far (blk_far (blk_far (blk_far hA nA _) nA _) nA _) nA _, blk_far (blk_far (blk_far (blk_far hB nB _) nB _) nB _) nB _, blk_put (blk_put (blk_put (blk_put hC 0 _ rfl) 1 _ rfl) 2 _ rfl) 3 _ rfl, ?_, ?_⟩
  · exact Kd.R_mono (qF (p := ⟨gC, 3, none⟩) (qF (p := ⟨gC, 2, none⟩) (qF (p := ⟨gC, 1, none⟩) (qF (p := ⟨gC, 0, none⟩) (Kd.R_types h1 hC (by decide)) (fun _ hk => hk.2) _) (fun _ hk => hk.2) _) (fun _ hk => hk.2) _) (fun _ hk => hk.2) _) (fun _ hk => hk.1)
  · exact Kd.R_mono (qF (p := ⟨gC, 3, none⟩) (qF (p := ⟨gC, 2, none⟩) (qF (p := ⟨gC, 1, none⟩) (qF (p := ⟨gC, 0, none⟩) (Kd.R_types h2 hC (by decide)) (fun _ hk => hk.2) _) (fun _ hk => hk.2) _) (fun _ hk => hk.2) _) (fun _ hk => hk.2) _) (fun _ hk => hk.1)
end
/-- The row that a pick looks into. -/
def Rw (w W : World) (v : Value) (ad : Addr) (xs : List Int) : Prop := Kd.R (Kd.int .i64) 3 W w.heap.size (fun _ => True) v xs ∧ ∃ c, v = .slice (some ad) xs.length c
theorem Rw.below {w W W1 : World} {v : Value} {ad : Addr} {xs : List Int} (H : Rw w W v ad xs) (hb : Below W.heap.size W W1) : Rw w W1 v ad xs := ⟨Kd.R_below H.1 hb, H.2⟩
theorem Rw.keep {w W W1 : World} {v : Value} {ad : Addr} {xs : List Int} {g : Nat} {s : List Int} {q : Int} (H : Rw w W v ad xs) (hi : IsS103 w W g s q) (hk : KeepBut W W1 g none) : Rw w W1 v ad xs :=
  ⟨Kd.R_mono (Kd.R_keep (hi.apart H.1 (by decide)) hk (fun _ h => h.2)) (fun _ h => h.1), H.2⟩
theorem Rw.at_ {w W : World} {v : Value} {ad : Addr} {xs : List Int} (H : Rw w W v ad xs) (i : Int) (h0 : 0 ≤ i) (h1 : i < xs.length) : W.cell? (ad.add i.toNat) = some (.int .i64 (rd xs i)) := by
  obtain ⟨hr, c, rfl⟩ := H
  obtain ⟨ad2, e, hx⟩ := Kd.at_int (qR hr).2.2 i h0 h1
  cases e
  exact hx
theorem Rw.new {w W : World} {v : Value} {xs : List Int} (hw : w.heap.size ≤ W.heap.size) {ok : Nat → Prop} (h : Kd.R (Kd.int .i64) 3 W w.heap.size ok v xs) (hn : 0 < xs.length) : ∃ ad, Rw w W v ad xs := by
  obtain ⟨ad, c, e⟩ := Kd.R_slice1 h hn
  exact ⟨ad, Kd.R_mono h (fun _ _ => trivial), c, e⟩
/-- The box of the ask. -/
def Bx (w W : World) (gA gB gC g g8 : Nat) (cs : Array Value) : Prop := W.heap[g8]? = some (.cells cs 33 (0, 0)) ∧ w.heap.size ≤ g8 ∧ g ≠ g8 ∧ gA ≠ g8 ∧ gB ≠ g8 ∧ gC ≠ g8
theorem Bx.below {w W W1 : World} {gA gB gC g g8 : Nat} {cs : Array Value} (H : Bx w W gA gB gC g g8 cs) (hb : Below W.heap.size W W1) : Bx w W1 gA gB gC g g8 cs := ⟨blk_below H.1 hb, H.2⟩
theorem Bx.keep {w W W1 : World} {gA gB gC g g8 : Nat} {cs : Array Value} (H : Bx w W gA gB gC g g8 cs) (hk : KeepBut W W1 g none) : Bx w W1 gA gB gC g g8 cs := ⟨hk.blk H.1 (Ne.symm H.2.2.1) (by simp), H.2⟩
/-- Where the draw stands. -/
def pS (b : Nat → Bool) (q : Int) : Int := if b 12 = true then q + 1 + 1 + 1 + 1 + 1 else if b 10 = true then q + 1 + 1 + 1 + 1 else if b 6 = true then q + 1 + 1 + 1 else if b 3 = true then q + 1 + 1 else if b 1 = true then q + 1 else q

/-- What the switch leaves. -/
def Sw (w W : World) (gA gB gC g g8 : Nat) (s : List Int) (p h : Int) (v1 v2 : Value) (l1 l2 : List Int) : Prop :=
  ∃ (x0 x1 x3 x4 x5 : Int) (l3 : List Int) (v6 : Value) (i : Int), 0 ≤ i ∧ i ≤ 800 ∧ IsS103 w W g s i ∧ Below w.heap.size w W ∧ Hd w W gA gB gC p h v1 v2 l1 l2 ∧ Bx w W gA gB gC g g8 #[.int .i64 x0, .int .i64 x1, v6, .int .i64 x3, .int .i64 x4, .int .i64 x5] ∧ Kd.R (Kd.int .u8) 5 W w.heap.size (fun _ => True) v6 l3 ∧ l3.length ≤ 9
theorem Sw.done {w W : World} {gA gB gC g g8 j : Nat} {s : List Int} {p h x0 x1 x3 x4 x5 i : Int} {v1 v2 u : Value} {l1 l2 : List Int} {cs : Array Value} (hi0 : 0 ≤ i) (hi1 : i ≤ 800) (hi : IsS103 w W g s i) (hb : Below w.heap.size w W) (H : Hd w W gA gB gC p h v1 v2 l1 l2) (X : Bx w W gA gB gC g g8 cs)
    (e : cs.setIfInBounds j u = #[.int .i64 x0, .int .i64 x1, .slice none 0 0, .int .i64 x3, .int .i64 x4, .int .i64 x5]) : Sw w (W.setCell ⟨g8, j, none⟩ u) gA gB gC g g8 s p h v1 v2 l1 l2 :=
  ⟨x0, x1, x3, x4, x5, [], .slice none 0 0, i, hi0, hi1, hi.far X.2.2.1 _, yS hb X.2.1, H.far X.1 rfl X.2.2.2.1 X.2.2.2.2.1 X.2.2.2.2.2, ⟨blk_put X.1 j u e, X.2⟩, Kd.R_nil _ _ _ _ _, by simp⟩
theorem Sw.row {w W : World} {gA gB gC g g8 : Nat} {s l3 : List Int} {p h x0 x1 x3 x4 x5 i : Int} {v1 v2 u : Value} {l1 l2 : List Int} {cs : Array Value} (hi0 : 0 ≤ i) (hi1 : i ≤ 800) (hi : IsS103 w W g s i) (hb : Below w.heap.size w W) (H : Hd w W gA gB gC p h v1 v2 l1 l2) (X : Bx w W gA gB gC g g8 cs)
    (hr : Kd.R (Kd.int .u8) 5 W w.heap.size (fun _ => True) u l3) (hl : l3.length ≤ 9) (e : cs.setIfInBounds 2 u = #[.int .i64 x0, .int .i64 x1, u, .int .i64 x3, .int .i64 x4, .int .i64 x5]) : Sw w (W.setCell ⟨g8, 2, none⟩ u) gA gB gC g g8 s p h v1 v2 l1 l2 :=
  ⟨x0, x1, x3, x4, x5, l3, u, i, hi0, hi1, hi.far X.2.2.1 _, yS hb X.2.1, H.far X.1 rfl X.2.2.2.1 X.2.2.2.2.1 X.2.2.2.2.2, ⟨blk_put X.1 2 u e, X.2⟩, Kd.R_mono (qF (p := ⟨g8, 2, none⟩) (Kd.R_types hr X.1 (by decide)) (fun _ hk => hk.2) u) (fun _ _ => trivial), hl⟩
/-- What the last region stands on. -/
def Ed (w W : World) (gA gB gC g8 : Nat) (cA cB : Array Value) (p h x0 x1 x3 x4 x5 : Int) (v1 v2 v6 : Value) (l1 l2 l3 : List Int) : Prop :=
  W.heap[gA]? = some (.cells cA 30 (0, 0)) ∧ W.heap[gB]? = some (.cells cB 33 (0, 0)) ∧ W.heap[gC]? = some (.cells #[.int .i64 p, v1, v2, .int .i64 h] 30 (0, 0)) ∧ W.heap[g8]? = some (.cells #[.int .i64 x0, .int .i64 x1, v6, .int .i64 x3, .int .i64 x4, .int .i64 x5] 33 (0, 0)) ∧
  Kd.R (Kd.int .i64) 3 W w.heap.size (fun k_ => some k_ ≠ v2.ownBlock) v1 l1 ∧ Kd.R (Kd.int .i64) 3 W w.heap.size (fun k_ => some k_ ≠ v1.ownBlock) v2 l2 ∧ Kd.R (Kd.int .u8) 5 W w.heap.size (fun _ => True) v6 l3
section
variable {w W W1 : World} {gA gB gC g8 : Nat} {cA cB : Array Value} {p h x0 x1 x3 x4 x5 : Int} {v1 v2 v6 : Value} {l1 l2 l3 : List Int}
theorem Ed.keep {g : Nat} {s : List Int} {q : Int} (H : Ed w W gA gB gC g8 cA cB p h x0 x1 x3 x4 x5 v1 v2 v6 l1 l2 l3) (hi : IsS103 w W g s q) (hk : KeepBut W W1 g none) : Ed w W1 gA gB gC g8 cA cB p h x0 x1 x3 x4 x5 v1 v2 v6 l1 l2 l3 :=
  ⟨hk.blk H.1 (Ne.symm (hi.ne_blk H.1 (by decide))) (by simp), hk.blk H.2.1 (Ne.symm (hi.ne_blk H.2.1 (by decide))) (by simp), hk.blk H.2.2.1 (Ne.symm (hi.ne_blk H.2.2.1 (by decide))) (by simp), hk.blk H.2.2.2.1 (Ne.symm (hi.ne_blk H.2.2.2.1 (by decide))) (by simp),
    Kd.R_mono (Kd.R_keep (hi.apart H.2.2.2.2.1 (by decide)) hk (fun _ h => h.2)) (fun _ h => h.1), Kd.R_mono (Kd.R_keep (hi.apart H.2.2.2.2.2.1 (by decide)) hk (fun _ h => h.2)) (fun _ h => h.1), Kd.R_mono (Kd.R_keep (hi.apart H.2.2.2.2.2.2 (by decide)) hk (fun _ h => h.2)) (fun _ h => h.1)⟩
theorem Ed.setA {i : Nat} {u : Value} {cA' : Array Value} (H : Ed w W gA gB gC g8 cA cB p h x0 x1 x3 x4 x5 v1 v2 v6 l1 l2 l3) (nB : gB ≠ gA) (nC : gC ≠ gA) (n8 : g8 ≠ gA) (e : cA.setIfInBounds i u = cA') : Ed w (W.setCell ⟨gA, i, none⟩ u) gA gB gC g8 cA' cB p h x0 x1 x3 x4 x5 v1 v2 v6 l1 l2 l3 :=
  ⟨blk_put H.1 i u e, blk_far H.2.1 nB _, blk_far H.2.2.1 nC _, blk_far H.2.2.2.1 n8 _, Kd.R_mono (qF (p := ⟨gA, i, none⟩) (Kd.R_types H.2.2.2.2.1 H.1 (by decide)) (fun _ hk => hk.2) u) (fun _ h => h.1), Kd.R_mono (qF (p := ⟨gA, i, none⟩) (Kd.R_types H.2.2.2.2.2.1 H.1 (by decide)) (fun _ hk => hk.2) u) (fun _ h => h.1), Kd.R_mono (qF (p := ⟨gA, i, none⟩) (Kd.R_types H.2.2.2.2.2.2 H.1 (by decide)) (fun _ hk => hk.2) u) (fun _ h => h.1)⟩
theorem Ed.setB {i : Nat} {u : Value} {cB' : Array Value} (H : Ed w W gA gB gC g8 cA cB p h x0 x1 x3 x4 x5 v1 v2 v6 l1 l2 l3) (nA : gA ≠ gB) (nC : gC ≠ gB) (n8 : g8 ≠ gB) (e : cB.setIfInBounds i u = cB') : Ed w (W.setCell ⟨gB, i, none⟩ u) gA gB gC g8 cA cB' p h x0 x1 x3 x4 x5 v1 v2 v6 l1 l2 l3 :=
  ⟨blk_far H.1 nA _, blk_put H.2.1 i u e, blk_far H.2.2.1 nC _, blk_far H.2.2.2.1 n8 _, Kd.R_mono (qF (p := ⟨gB, i, none⟩) (Kd.R_types H.2.2.2.2.1 H.2.1 (by decide)) (fun _ hk => hk.2) u) (fun _ h => h.1), Kd.R_mono (qF (p := ⟨gB, i, none⟩) (Kd.R_types H.2.2.2.2.2.1 H.2.1 (by decide)) (fun _ hk => hk.2) u) (fun _ h => h.1), Kd.R_mono (qF (p := ⟨gB, i, none⟩) (Kd.R_types H.2.2.2.2.2.2 H.2.1 (by decide)) (fun _ hk => hk.2) u) (fun _ h => h.1)⟩
end
/-- The message that was drawn. -/
def Rm (w W : World) (v : Value) (m : List Int) : Prop := Kd.R (Kd.int .u8) 5 W w.heap.size (fun _ => True) v m
theorem Rm.keep {w W W1 : World} {v : Value} {m : List Int} {g : Nat} {s : List Int} {q : Int} (H : Rm w W v m) (hi : IsS103 w W g s q) (hk : KeepBut W W1 g none) : Rm w W1 v m := Kd.R_mono (Kd.R_keep (hi.apart H (by decide)) hk (fun _ h => h.2)) (fun _ h => h.1)
theorem Rm.far {w W : World} {v u : Value} {m : List Int} {x i : Nat} {cs : Array Value} {t : TypeId} (H : Rm w W v m) (hx : W.heap[x]? = some (.cells cs t (0, 0))) (ht : t = 30 ∨ t = 33) : Rm w (W.setCell ⟨x, i, none⟩ u) v m := by
  rcases ht with rfl | rfl <;> exact Kd.R_mono (qF (p := ⟨x, i, none⟩) (Kd.R_types H hx (by decide)) (fun _ hk => hk.2) u) (fun _ h => h.1)
def pT (b : Nat → Bool) (i j : Int) : Int := if b 5 = true then j + 1 else if b 3 = true then j else i

/-- What the draw hands back. -/
def Out (w : World) (p h : Int) (l1 l2 : List Int) (e : Ending) (w' : World) : Prop := ∃ (x0 x1 x3 x4 x5 : Int) (l3 m : List Int) (yes : Bool) (v1 v2 v6 v10 : Value), e = .returned (.tuple #[.agg #[.int .i64 p, v1, v2, .int .i64 h], .agg #[.int .i64 x0, .int .i64 x1, v6, .int .i64 x3, .int .i64 x4, .int .i64 x5], v10, .bool yes]) ∧ Kd.R (Kd.int .i64) 3 w' w.heap.size (fun k_ => some k_ ≠ v2.ownBlock) v1 l1 ∧ Kd.R (Kd.int .i64) 3 w' w.heap.size (fun k_ => some k_ ≠ v1.ownBlock) v2 l2 ∧ Kd.R (Kd.int .u8) 5 w' w.heap.size (fun _ => True) v6 l3 ∧ Kd.R (Kd.int .u8) 5 w' w.heap.size (fun _ => True) v10 m ∧ Below w.heap.size w w' ∧ l3.length ≤ 9 ∧ m.length ≤ 9 ∧ ∀ x ∈ m, 0 ≤ x ∧ x ≤ 255
set_option maxHeartbeats 8000000 in
set_option maxRecDepth 100000 in
theorem draw_any (k : Nat) (A0 : Option Addr) (c0 : Nat) (l0 s : List Int) (w : World) (hr0 : Kd.C (Kd.int .u8) w A0 l0.length l0) (hc0 : l0.length ≤ c0) (hOP : spec_l30Open.f l0 = some (s, 0))
    (p h q : Int) (l1 l2 : List Int) (hST : spec_l31State.f k s 0 9 = some (p, l1, l2, h, q)) (hq0 : 0 ≤ q) (hq1 : q ≤ 500)
    (PK : ∀ n i : Int, 0 ≤ i → i ≤ 1000 → 1 ≤ n → ∃ r, spec_l30Rd_pick.f k s i n = some (r, i + 1) ∧ 0 ≤ r ∧ r < n)
    (BY : ∀ i : Int, 0 ≤ i → i ≤ 900 → ∃ l j, spec_l30Bytes.f k s i 9 = some (l, j) ∧ 0 ≤ j ∧ j ≤ i + 9 ∧ l.length ≤ 9)
    (MS : ∀ i : Int, 0 ≤ i → i ≤ 900 → ∃ l j, spec_l30Message.f k s i = some (l, j) ∧ 0 ≤ j ∧ j ≤ i + 20 ∧ l.length ≤ 9 ∧ ∀ x ∈ l, 0 ≤ x ∧ x ≤ 255) :
    Calls Try.prog 44 #[.slice A0 l0.length c0] w fun e w' => Out w p h l1 l2 e w' := by
 have hu30 := Try.underlying30
 have hu33 := Try.underlying33
 have HR0 := qM hr0
 have HC0 := qM hc0
 clear hr0 hc0
 have HB := qM (Below.refl w.heap.size w)
 have A2 := qM hOP
 have A3 := qM hST
 clear hOP hST
 obtain ⟨t0, a4, _, _⟩ := PK 6 q (by omega) (by omega) (by omega)
 obtain ⟨t1, a5, _, _⟩ := PK 10 (q + 1) (by omega) (by omega) (by omega)
 obtain ⟨t2, a6, z2, y2⟩ := PK 6 (q + 1 + 1) (by omega) (by omega) (by omega)
 obtain ⟨t3, a9, _, _⟩ := PK 4 (q + 1 + 1 + 1) (by omega) (by omega) (by omega)
 obtain ⟨t4, a10, _, _⟩ := PK 4 (q + 1 + 1 + 1 + 1) (by omega) (by omega) (by omega)
 obtain ⟨t5, a11, _, _⟩ := PK 20 (q + 1 + 1 + 1 + 1 + 1) (by omega) (by omega) (by omega)
 have A4 := qM a4
 have A5 := qM a5
 have A6 := qM a6
 have A9 := qM a9
 have A10 := qM a10
 have A11 := qM a11
 clear a4 a5 a6 a9 a10 a11
 have Z2 := qM z2
 have Y2 := qM y2
 have PK' := qM PK
 have BY' := qM BY
 have MS' := qM MS
 have Q0 := qM hq0
 have Q1 := qM hq1
 clear PK BY MS hq0 hq1 z2 y2
 go_enter Try.func44, Try.ntmps44
 go_wp2_with (first | ((with_reducible refine gate_dst (N := 2) rfl ?_); refine box_event ?hg (N := 2) ?hd (cs := #[.int .i64 0, .slice none 0 0, .slice none 0 0, .int .i64 0]) (t := 30) ?hr ?_; (case hd => rfl); (case hg => rfl); (case hr => first | (go_simp; done) | (go_simp; rfl)); intro gA hg wa hbox hb; have GA := qM ((by rw [hg]; exact below_size (yb HB)) : w.heap.size ≤ gA); have n0_ := qM (below_step (yb HB) hb); clear HB; have HB := n0_; have BA := qM hbox; clear n0_ hb hbox hg) | ((with_reducible refine gate_dst (N := 3) rfl ?_); refine box_event ?hg (N := 3) ?hd (cs := #[.int .i64 0, .int .i64 0, .slice none 0 0, .int .i64 0, .int .i64 0, .int .i64 0]) (t := 33) ?hr ?_; (case hd => rfl); (case hg => rfl); (case hr => first | (go_simp; done) | (go_simp; rfl)); intro gB hg wb hbox hb; have GB := qM ((by rw [hg]; exact below_size (yb HB)) : w.heap.size ≤ gB); have NAB := qM ((by rw [hg]; exact Nat.ne_of_lt (blk_lt (bz BA))) : gA ≠ gB); have n0_ := qM (below_step (yb HB) hb); have n1_ := qM (blk_below (bz BA) hb); clear HB BA; have HB := n0_; have BA := n1_; have BB := qM hbox; clear n0_ n1_ hb hbox hg) | ((with_reducible refine gate_callee (f := 71) rfl ?_); refine goesL_ (some 10) rfl rfl Try.func71 (by kernel_rfl) rfl #[.slice A0 l0.length c0] rfl (by (try simp only [List.map_toArray, List.map_cons, List.map_nil]); first | done | rfl) ?_; (with_reducible refine (spec_l30Open.calls _ _ l0 s 0 w _ ?side1 ?side2 ?side3 A2.out).mono ?_); (case side1 => exact (yb HB)); (case side2 => exact HR0.out); (case side3 => exact HC0.out); rintro e wo ⟨g, rfl, hi, hb, hb2⟩; refine ⟨_, rfl, ?_⟩; have n0_ := qM hb; have n1_ := qM (blk_below (bz BA) hb2); have n2_ := qM (blk_below (bz BB) hb2); clear HB BA BB; have HB := n0_; have BA := n1_; have BB := n2_; have HI := qM hi; clear n0_ n1_ n2_ hb hb2 hi) | ((with_reducible refine gate_callee (f := 77) rfl ?_); refine goesL_ (some 12) rfl rfl Try.func77 (by kernel_rfl) rfl #[.pointer (some ⟨g, 0, none⟩), .int .i64 9] rfl (by (try simp only [List.map_toArray, List.map_cons, List.map_nil]); first | done | rfl) ?_; (with_reducible refine (spec_l31State.calls k g s 0 9 p l1 l2 h q w _ ?side1 ?side2 A3.out).mono ?_); (case side1 => exact HI.out); (case side2 => exact (yb HB)); rintro e ws ⟨v1, v2, rfl, ho0, ho1, hi, hb, hk⟩; refine ⟨_, rfl, ?_⟩; have n1_ := qM (KeepBut.blk hk BA.out (Ne.symm (IsS103.ne_blk HI.out BA.out (by decide))) (by simp)); have n2_ := qM (KeepBut.blk hk BB.out (Ne.symm (IsS103.ne_blk HI.out BB.out (by decide))) (by simp)); have n3_ := qM (Kd.R_lower ho0 (below_size HB.out)); have n4_ := qM (Kd.R_lower ho1 (below_size HB.out)); clear HB BA BB HI; have HB := qM hb; have HI := qM hi; have BA := n1_; have BB := n2_; have H1 := n3_; have H2 := n4_; clear n1_ n2_ n3_ n4_ hb hi hk ho0 ho1) | ((with_reducible refine gate_dst (N := 7) rfl ?_); refine box_event ?hg (N := 7) ?hd (cs := #[.int .i64 0, .slice none 0 0, .slice none 0 0, .int .i64 0]) (t := 30) ?hr ?_; (case hd => rfl); (case hg => rfl); (case hr => first | (go_simp; done) | (go_simp; rfl)); intro gC hg wc hbox hb; have GC := qM ((by rw [hg]; exact below_size (yb HB)) : w.heap.size ≤ gC); have NAC := qM ((by rw [hg]; exact Nat.ne_of_lt (blk_lt (bz BA))) : gA ≠ gC); have NBC := qM ((by rw [hg]; exact Nat.ne_of_lt (blk_lt (bz BB))) : gB ≠ gC); have n0_ := qM (below_step (yb HB) hb); have n1_ := qM (blk_below (bz BA) hb); have n2_ := qM (blk_below (bz BB) hb); have n3_ := qM (Kd.R_below (qz H1) hb); have n4_ := qM (Kd.R_below (qz H2) hb); have n5_ := qM (IsS103.below HI.out hb); clear HB BA BB H1 H2 HI; have HB := n0_; have BA := n1_; have BB := n2_; have H1 := n3_; have H2 := n4_; have HI := n5_; have BC := qM hbox; have NGC := qM (IsS103.ne_blk HI.out BC.out (by decide)); clear n0_ n1_ n2_ n3_ n4_ n5_ hb hbox hg; have hz0 : wc.cell? ⟨gC, 0, none⟩ = some (.int .i64 0) := (zC BC.out 0).trans rfl; have hz1 : wc.cell? ⟨gC, 1, none⟩ = some (.slice none 0 0) := (zC BC.out 1).trans rfl; have hz2 : wc.cell? ⟨gC, 2, none⟩ = some (.slice none 0 0) := (zC BC.out 2).trans rfl; have hz3 : wc.cell? ⟨gC, 3, none⟩ = some (.int .i64 0) := (zC BC.out 3).trans rfl; have hf0 := zF BC.out 0; have hf1 := zF BC.out 1; have hf2 := zF BC.out 2; have hf3 := zF BC.out 3; obtain ⟨X1, C1, ex1⟩ := Kd.R_slice H1.out; obtain ⟨X2, C2, ex2⟩ := Kd.R_slice H2.out; subst ex1; subst ex2))
 have n0_ : Aside0 (Hd w ((((wc.setCell ⟨gC, 0, none⟩ (.int .i64 p)).setCell ⟨gC, 1, none⟩ (.slice X1 l1.length C1)).setCell ⟨gC, 2, none⟩ (.slice X2 l2.length C2)).setCell ⟨gC, 3, none⟩ (.int .i64 h)) gA gB gC p h (.slice X1 l1.length C1) (.slice X2 l2.length C2) l1 l2) := ⟨Hd.init BA.out BB.out BC.out NAC.out NBC.out H1.out H2.out⟩
 have n1_ : Aside0 (IsS103 w ((((wc.setCell ⟨gC, 0, none⟩ (.int .i64 p)).setCell ⟨gC, 1, none⟩ (.slice X1 l1.length C1)).setCell ⟨gC, 2, none⟩ (.slice X2 l2.length C2)).setCell ⟨gC, 3, none⟩ (.int .i64 h)) g s q) := ⟨IsS103.far (IsS103.far (IsS103.far (IsS103.far HI.out NGC.out _) NGC.out _) NGC.out _) NGC.out _⟩
 have n2_ : Aside0 (Below w.heap.size w ((((wc.setCell ⟨gC, 0, none⟩ (.int .i64 p)).setCell ⟨gC, 1, none⟩ (.slice X1 l1.length C1)).setCell ⟨gC, 2, none⟩ (.slice X2 l2.length C2)).setCell ⟨gC, 3, none⟩ (.int .i64 h))) := ⟨yS (yS (yS (yS HB.out GC.out) GC.out) GC.out) GC.out⟩
 clear HI HB BA BB BC H1 H2 hz0 hz1 hz2 hz3 hf0 hf1 hf2 hf3
 generalize ((((wc.setCell ⟨gC, 0, none⟩ (.int .i64 p)).setCell ⟨gC, 1, none⟩ (.slice X1 l1.length C1)).setCell ⟨gC, 2, none⟩ (.slice X2 l2.length C2)).setCell ⟨gC, 3, none⟩ (.int .i64 h)) = w29 at n0_ n1_ n2_ ⊢
 have HD := n0_
 have HI := n1_
 have HB := n2_
 clear n0_ n1_ n2_
 refine start_ (n := 16) (S := fun w' => True) (ds := []) #[false, false, false, false, false, false, false, false, false, false, false, false, false, false, false, false] (by kernel_rfl) rfl rfl trivial (fun hHeld => ?_)
 refine with_tabW tab3 bits3 (fun HT_ HW_ => ?_)
 have n0_ := qM (Hd.below HD.out (below_drew (Below.refl _ _)))
 have n1_ := qM (IsS103.drew HI.out)
 have n2_ := qM (yD HB.out)
 clear HD HI HB
 generalize w29.drew = w30 at n0_ n1_ n2_ ⊢
 have HD := n0_
 have HI := n1_
 have HB := n2_
 clear n0_ n1_ n2_
 refine inv_at [0, 1, 2, 3, 4, 5, 6, 7, 8, 9, 10, 11, 12, 13, 14, 15] (fun a0_ b a w' => ∃ (v17 : Value) (ad : Addr) (g8 : Nat) (m7 : Value), a = putSel a0_ b [(0, 13, .pointer (some ⟨g, 0, none⟩)), (1, 14, .int .i64 t0), (2, 15, .pointer (some ⟨g, 0, none⟩)), (3, 16, .int .i64 t1), (4, 17, v17), (5, 18, .pointer (some ⟨g, 0, none⟩)), (6, 19, .int .i64 t2), (7, 20, m7), (8, 21, .int .i64 (rd [0, 1, 4, 7, 8, 255] t2)), (9, 22, .pointer (some ⟨g, 0, none⟩)), (10, 23, .int .i64 t3), (11, 24, .pointer (some ⟨g, 0, none⟩)), (12, 25, .int .i64 t4), (13, 26, .agg #[.int .i64 t0, .int .i64 t1, .slice none 0 0, .int .i64 (rd [0, 1, 4, 7, 8, 255] t2), .int .i64 t3, .int .i64 t4]), (14, 8, .pointer (some ⟨g8, 0, none⟩))] ∧ IsS103 w w' g s (pS b q) ∧ Below w.heap.size w w' ∧ Hd w w' gA gB gC p h (.slice X1 l1.length C1) (.slice X2 l2.length C2) l1 l2 ∧ (b 4 = true → Rw w w' v17 ad [0, 1, 4, 7, 8, 255] ∨ b 15 = true) ∧ (b 14 = true → Bx w w' gA gB gC g g8 (if b 15 = true then #[.int .i64 t0, .int .i64 t1, .slice none 0 0, .int .i64 (rd [0, 1, 4, 7, 8, 255] t2), .int .i64 t3, .int .i64 t4] else #[.int .i64 0, .int .i64 0, .slice none 0 0, .int .i64 0, .int .i64 0, .int .i64 0])) ∧ (b 7 = true → m7 = .pointer (some (ad.add (t2).toNat)))) HT_.out HW_.out (by kernel_rfl) (by kernel_rfl) ?_ ?_ ?_
 ·exact ⟨.bool false, ⟨0, 0, none⟩, 0, .bool false, by simp only [putSel, Bool.false_eq_true, if_false], HI.out, HB.out, HD.out, fun h_ => absurd h_ (by decide), fun h_ => absurd h_ (by decide), fun h_ => absurd h_ (by decide)⟩
 ·skip
  clear HD HI HB
  refine steps_cons ?_ ?_
  ·rintro b a w' ⟨v17, ad, g8, m7, ha, Qi, Qb, Qh, Qr, Qx, Q7⟩ hb_ hon hoff
   refine ⟨_, rfl, fun K hK => ?_⟩
   have e6 : a.tmps[6]? = some (.pointer (some ⟨g, 0, none⟩)) := by rw [ha]; exact (putSel_off rfl).trans rfl
   replace ha := qM ha
   refine value_ (w1 := w') (v := .pointer (some ⟨g, 0, none⟩)) (by rfl) rfl ?_ ?_
   ·go_simp
    (try simp only [i64_w])
    try rfl
   refine hK.out _ _ ⟨v17, ad, g8, m7, (by rw [ha.out]; exact putSel_upk 0 hb_ rfl rfl rfl), Qi, Qb, Qh, Qr, Qx, Q7⟩
  refine steps_cons ?_ ?_
  ·rintro b a w' ⟨v17, ad, g8, m7, ha, Qi, Qb, Qh, Qr, Qx, Q7⟩ hb_ hon hoff
   refine ⟨_, rfl, fun K hK => ?_⟩
   have o3 : b 3 = false := hoff 3 (by kernel_rfl)
   have o6 : b 6 = false := hoff 6 (by kernel_rfl)
   have o10 : b 10 = false := hoff 10 (by kernel_rfl)
   have o12 : b 12 = false := hoff 12 (by kernel_rfl)
   have e13 : a.tmps[13]? = some (.pointer (some ⟨g, 0, none⟩)) := by rw [ha]; exact putSel_on (e := (0, 13, .pointer (some ⟨g, 0, none⟩))) 0 rfl rfl (hon 0 (by kernel_rfl)) rfl
   replace ha := qM ha
   have Qi0 : IsS103 w w' g s (q) := by have h_ := Qi; simp only [pS, hb_, o3, o6, o10, o12, Bool.false_eq_true, if_false, if_true] at h_; exact h_
   refine goes_ Try.func73 (by kernel_rfl) rfl #[.pointer (some ⟨g, 0, none⟩), .int .i64 6] (by rfl) rfl rfl (by first | (simp only [List.map_toArray, List.map_cons, List.map_nil, Act.eval, Array.getD_eq_getD_getElem?, Option.getD_some, e13]; done) | (simp only [List.map_toArray, List.map_cons, List.map_nil, Act.eval, Array.getD_eq_getD_getElem?, Option.getD_some, e13]; rfl)) ?_
   refine (spec_l30Rd_pick.calls k g s (q) 6 t0 (q + 1) w _ Qi0 Qb A4.out).mono ?_
   rintro e W1 ⟨rfl, hi, hb, hk⟩
   refine ⟨_, rfl, ?_⟩
   refine hK.out _ _ ⟨v17, ad, g8, m7, (by rw [ha.out]; exact putSel_upk 1 hb_ rfl rfl rfl), (by simp only [pS, up_self, up_ne (show (3 : Nat) ≠ 1 by decide), up_ne (show (6 : Nat) ≠ 1 by decide), up_ne (show (10 : Nat) ≠ 1 by decide), up_ne (show (12 : Nat) ≠ 1 by decide), if_true]; (try simp only [o3, o6, o10, o12, Bool.false_eq_true, if_false]); exact hi), hb, Qh.keep Qi0 hk, (fun h_ => (Qr h_).imp (fun z => z.keep Qi0 hk) id), (fun h_ => (Qx h_).keep hk), Q7⟩
  refine steps_cons ?_ ?_
  ·rintro b a w' ⟨v17, ad, g8, m7, ha, Qi, Qb, Qh, Qr, Qx, Q7⟩ hb_ hon hoff
   refine ⟨_, rfl, fun K hK => ?_⟩
   have e6 : a.tmps[6]? = some (.pointer (some ⟨g, 0, none⟩)) := by rw [ha]; exact (putSel_off rfl).trans rfl
   replace ha := qM ha
   refine value_ (w1 := w') (v := .pointer (some ⟨g, 0, none⟩)) (by rfl) rfl ?_ ?_
   ·go_simp
    (try simp only [i64_w])
    try rfl
   refine hK.out _ _ ⟨v17, ad, g8, m7, (by rw [ha.out]; exact putSel_upk 2 hb_ rfl rfl rfl), Qi, Qb, Qh, Qr, Qx, Q7⟩
  refine steps_cons ?_ ?_
  ·rintro b a w' ⟨v17, ad, g8, m7, ha, Qi, Qb, Qh, Qr, Qx, Q7⟩ hb_ hon hoff
   refine ⟨_, rfl, fun K hK => ?_⟩
   have o6 : b 6 = false := hoff 6 (by kernel_rfl)
   have o10 : b 10 = false := hoff 10 (by kernel_rfl)
   have o12 : b 12 = false := hoff 12 (by kernel_rfl)
   have o1 : b 1 = true := hon 1 (by kernel_rfl)
   have e15 : a.tmps[15]? = some (.pointer (some ⟨g, 0, none⟩)) := by rw [ha]; exact putSel_on (e := (2, 15, .pointer (some ⟨g, 0, none⟩))) 2 rfl rfl (hon 2 (by kernel_rfl)) rfl
   replace ha := qM ha
   have Qi0 : IsS103 w w' g s (q + 1) := by have h_ := Qi; simp only [pS, hb_, o1, o6, o10, o12, Bool.false_eq_true, if_false, if_true] at h_; exact h_
   refine goes_ Try.func73 (by kernel_rfl) rfl #[.pointer (some ⟨g, 0, none⟩), .int .i64 10] (by rfl) rfl rfl (by first | (simp only [List.map_toArray, List.map_cons, List.map_nil, Act.eval, Array.getD_eq_getD_getElem?, Option.getD_some, e15]; done) | (simp only [List.map_toArray, List.map_cons, List.map_nil, Act.eval, Array.getD_eq_getD_getElem?, Option.getD_some, e15]; rfl)) ?_
   refine (spec_l30Rd_pick.calls k g s (q + 1) 10 t1 (q + 1 + 1) w _ Qi0 Qb A5.out).mono ?_
   rintro e W1 ⟨rfl, hi, hb, hk⟩
   refine ⟨_, rfl, ?_⟩
   refine hK.out _ _ ⟨v17, ad, g8, m7, (by rw [ha.out]; exact putSel_upk 3 hb_ rfl rfl rfl), (by simp only [pS, up_self, up_ne (show (1 : Nat) ≠ 3 by decide), up_ne (show (6 : Nat) ≠ 3 by decide), up_ne (show (10 : Nat) ≠ 3 by decide), up_ne (show (12 : Nat) ≠ 3 by decide), if_true]; (try simp only [o6, o10, o12, Bool.false_eq_true, if_false]); exact hi), hb, Qh.keep Qi0 hk, (fun h_ => (Qr h_).imp (fun z => z.keep Qi0 hk) id), (fun h_ => (Qx h_).keep hk), Q7⟩
  refine steps_cons ?_ ?_
  ·rintro b a w' ⟨v17, ad, g8, m7, ha, Qi, Qb, Qh, Qr, Qx, Q7⟩ hb_ hon hoff
   refine ⟨_, rfl, fun K hK => ?_⟩
   replace ha := qM ha
   have h15 : b 15 = false := hoff 15 (by kernel_rfl)
   refine Kd.R_lit_step (Kd.int .i64) _ 3 ?hg (N := 17) ?hd (xs := ([0, 1, 4, 7, 8, 255] : List Int)) (inner := [.int .i64 0, .int .i64 1, .int .i64 4, .int .i64 7, .int .i64 8, .int .i64 255]) (ok := fun _ => True) (okp := fun _ => True) ?hr ?hp (fun _ hk => hk) trivial (Below.refl w'.heap.size w') (Nat.le_refl _) (by simp) ?_; (case hd => rfl); (case hg => rfl); (case hr => first | (go_simp; done) | (go_simp; rfl)); (case hp => exact (Reps.one (show Kd.M (Kd.int .i64) _ _ _ 0 [.int .i64 0] from rfl) (Reps.one (show Kd.M (Kd.int .i64) _ _ _ 1 [.int .i64 1] from rfl) (Reps.one (show Kd.M (Kd.int .i64) _ _ _ 4 [.int .i64 4] from rfl) (Reps.one (show Kd.M (Kd.int .i64) _ _ _ 7 [.int .i64 7] from rfl) (Reps.one (show Kd.M (Kd.int .i64) _ _ _ 8 [.int .i64 8] from rfl) (Reps.one (show Kd.M (Kd.int .i64) _ _ _ 255 [.int .i64 255] from rfl) (Reps.none _ _))))))))
   intro v17 w1 ho hb hg_ hnew_
   obtain ⟨ad, hrw⟩ := Rw.new (below_size (below_step Qb hb)) (Kd.R_lower ho (below_size Qb)) (by decide)
   refine hK.out _ _ ⟨v17, ad, g8, m7, (by rw [ha.out]; exact putSel_upk 4 hb_ rfl rfl rfl), (show IsS103 w w1 g s (pS (up b 4) q) from Qi.below hb), below_step Qb hb, Qh.below hb, fun _ => .inl hrw, (fun h_ => (Qx h_).below hb), fun h_ => absurd ((hoff 7 (by kernel_rfl)).symm.trans h_) (by decide)⟩
  refine steps_cons ?_ ?_
  ·rintro b a w' ⟨v17, ad, g8, m7, ha, Qi, Qb, Qh, Qr, Qx, Q7⟩ hb_ hon hoff
   refine ⟨_, rfl, fun K hK => ?_⟩
   have e6 : a.tmps[6]? = some (.pointer (some ⟨g, 0, none⟩)) := by rw [ha]; exact (putSel_off rfl).trans rfl
   replace ha := qM ha
   refine value_ (w1 := w') (v := .pointer (some ⟨g, 0, none⟩)) (by rfl) rfl ?_ ?_
   ·go_simp
    (try simp only [i64_w])
    try rfl
   refine hK.out _ _ ⟨v17, ad, g8, m7, (by rw [ha.out]; exact putSel_upk 5 hb_ rfl rfl rfl), Qi, Qb, Qh, Qr, Qx, Q7⟩
  refine steps_cons ?_ ?_
  ·rintro b a w' ⟨v17, ad, g8, m7, ha, Qi, Qb, Qh, Qr, Qx, Q7⟩ hb_ hon hoff
   refine ⟨_, rfl, fun K hK => ?_⟩
   have o10 : b 10 = false := hoff 10 (by kernel_rfl)
   have o12 : b 12 = false := hoff 12 (by kernel_rfl)
   have o1 : b 1 = true := hon 1 (by kernel_rfl)
   have o3 : b 3 = true := hon 3 (by kernel_rfl)
   have e18 : a.tmps[18]? = some (.pointer (some ⟨g, 0, none⟩)) := by rw [ha]; exact putSel_on (e := (5, 18, .pointer (some ⟨g, 0, none⟩))) 5 rfl rfl (hon 5 (by kernel_rfl)) rfl
   replace ha := qM ha
   have Qi0 : IsS103 w w' g s (q + 1 + 1) := by have h_ := Qi; simp only [pS, hb_, o1, o3, o10, o12, Bool.false_eq_true, if_false, if_true] at h_; exact h_
   refine goes_ Try.func73 (by kernel_rfl) rfl #[.pointer (some ⟨g, 0, none⟩), .int .i64 6] (by rfl) rfl rfl (by first | (simp only [List.map_toArray, List.map_cons, List.map_nil, Act.eval, Array.getD_eq_getD_getElem?, Option.getD_some, e18]; done) | (simp only [List.map_toArray, List.map_cons, List.map_nil, Act.eval, Array.getD_eq_getD_getElem?, Option.getD_some, e18]; rfl)) ?_
   refine (spec_l30Rd_pick.calls k g s (q + 1 + 1) 6 t2 (q + 1 + 1 + 1) w _ Qi0 Qb A6.out).mono ?_
   rintro e W1 ⟨rfl, hi, hb, hk⟩
   refine ⟨_, rfl, ?_⟩
   refine hK.out _ _ ⟨v17, ad, g8, m7, (by rw [ha.out]; exact putSel_upk 6 hb_ rfl rfl rfl), (by simp only [pS, up_self, up_ne (show (1 : Nat) ≠ 6 by decide), up_ne (show (3 : Nat) ≠ 6 by decide), up_ne (show (10 : Nat) ≠ 6 by decide), up_ne (show (12 : Nat) ≠ 6 by decide), if_true]; (try simp only [o10, o12, Bool.false_eq_true, if_false]); exact hi), hb, Qh.keep Qi0 hk, (fun h_ => (Qr h_).imp (fun z => z.keep Qi0 hk) id), (fun h_ => (Qx h_).keep hk), Q7⟩
  refine steps_cons ?_ ?_
  ·rintro b a w' ⟨v17, ad, g8, m7, ha, Qi, Qb, Qh, Qr, Qx, Q7⟩ hb_ hon hoff
   refine ⟨_, rfl, fun K hK => ?_⟩
   have e17 : a.tmps[17]? = some (v17) := by rw [ha]; exact putSel_on (e := (4, 17, v17)) 4 rfl rfl (hon 4 (by kernel_rfl)) rfl
   have e19 : a.tmps[19]? = some (.int .i64 t2) := by rw [ha]; exact putSel_on (e := (6, 19, .int .i64 t2)) 6 rfl rfl (hon 6 (by kernel_rfl)) rfl
   obtain ⟨hrw, c_, hv_⟩ := (Qr (hon 4 (by kernel_rfl))).resolve_right (by rw [hoff 15 (by kernel_rfl)]; decide)
   rw [hv_] at e17
   have z2 := eq_true Z2.out
   replace ha := qM ha
   refine value_ (w1 := w') (v := .pointer (some (ad.add (t2).toNat))) (by rfl) rfl ?_ ?_
   ·go_simp
    (try simp only [i64_w])
    exact fun h_ => absurd Y2.out (Int.not_lt.2 h_)
   refine hK.out _ _ ⟨v17, ad, g8, .pointer (some (ad.add (t2).toNat)), (by rw [ha.out]; exact putSel_upk 7 hb_ rfl rfl rfl), Qi, Qb, Qh, Qr, Qx, fun _ => rfl⟩
  refine steps_cons ?_ ?_
  ·rintro b a w' ⟨v17, ad, g8, m7, ha, Qi, Qb, Qh, Qr, Qx, Q7⟩ hb_ hon hoff
   refine ⟨_, rfl, fun K hK => ?_⟩
   have e20 : a.tmps[20]? = some (m7) := by rw [ha]; exact putSel_on (e := (7, 20, m7)) 7 rfl rfl (hon 7 (by kernel_rfl)) rfl
   rw [Q7 (hon 7 (by kernel_rfl))] at e20
   have hrw := (Qr (hon 4 (by kernel_rfl))).resolve_right (by rw [hoff 15 (by kernel_rfl)]; decide)
   have hx_ := hrw.at_ t2 Z2.out Y2.out
   replace ha := qM ha
   refine value_ (w1 := w') (v := .int .i64 (rd [0, 1, 4, 7, 8, 255] t2)) (by rfl) rfl ?_ ?_
   ·go_simp
    (try simp only [i64_w])
    try rfl
   refine hK.out _ _ ⟨v17, ad, g8, m7, (by rw [ha.out]; exact putSel_upk 8 hb_ rfl rfl rfl), Qi, Qb, Qh, Qr, Qx, Q7⟩
  refine steps_cons ?_ ?_
  ·rintro b a w' ⟨v17, ad, g8, m7, ha, Qi, Qb, Qh, Qr, Qx, Q7⟩ hb_ hon hoff
   refine ⟨_, rfl, fun K hK => ?_⟩
   have e6 : a.tmps[6]? = some (.pointer (some ⟨g, 0, none⟩)) := by rw [ha]; exact (putSel_off rfl).trans rfl
   replace ha := qM ha
   refine value_ (w1 := w') (v := .pointer (some ⟨g, 0, none⟩)) (by rfl) rfl ?_ ?_
   ·go_simp
    (try simp only [i64_w])
    try rfl
   refine hK.out _ _ ⟨v17, ad, g8, m7, (by rw [ha.out]; exact putSel_upk 9 hb_ rfl rfl rfl), Qi, Qb, Qh, Qr, Qx, Q7⟩
  refine steps_cons ?_ ?_
  ·rintro b a w' ⟨v17, ad, g8, m7, ha, Qi, Qb, Qh, Qr, Qx, Q7⟩ hb_ hon hoff
   refine ⟨_, rfl, fun K hK => ?_⟩
   have o12 : b 12 = false := hoff 12 (by kernel_rfl)
   have o1 : b 1 = true := hon 1 (by kernel_rfl)
   have o3 : b 3 = true := hon 3 (by kernel_rfl)
   have o6 : b 6 = true := hon 6 (by kernel_rfl)
   have e22 : a.tmps[22]? = some (.pointer (some ⟨g, 0, none⟩)) := by rw [ha]; exact putSel_on (e := (9, 22, .pointer (some ⟨g, 0, none⟩))) 9 rfl rfl (hon 9 (by kernel_rfl)) rfl
   replace ha := qM ha
   have Qi0 : IsS103 w w' g s (q + 1 + 1 + 1) := by have h_ := Qi; simp only [pS, hb_, o1, o3, o6, o12, Bool.false_eq_true, if_false, if_true] at h_; exact h_
   refine goes_ Try.func73 (by kernel_rfl) rfl #[.pointer (some ⟨g, 0, none⟩), .int .i64 4] (by rfl) rfl rfl (by first | (simp only [List.map_toArray, List.map_cons, List.map_nil, Act.eval, Array.getD_eq_getD_getElem?, Option.getD_some, e22]; done) | (simp only [List.map_toArray, List.map_cons, List.map_nil, Act.eval, Array.getD_eq_getD_getElem?, Option.getD_some, e22]; rfl)) ?_
   refine (spec_l30Rd_pick.calls k g s (q + 1 + 1 + 1) 4 t3 (q + 1 + 1 + 1 + 1) w _ Qi0 Qb A9.out).mono ?_
   rintro e W1 ⟨rfl, hi, hb, hk⟩
   refine ⟨_, rfl, ?_⟩
   refine hK.out _ _ ⟨v17, ad, g8, m7, (by rw [ha.out]; exact putSel_upk 10 hb_ rfl rfl rfl), (by simp only [pS, up_self, up_ne (show (1 : Nat) ≠ 10 by decide), up_ne (show (3 : Nat) ≠ 10 by decide), up_ne (show (6 : Nat) ≠ 10 by decide), up_ne (show (12 : Nat) ≠ 10 by decide), if_true]; (try simp only [o12, Bool.false_eq_true, if_false]); exact hi), hb, Qh.keep Qi0 hk, (fun h_ => (Qr h_).imp (fun z => z.keep Qi0 hk) id), (fun h_ => (Qx h_).keep hk), Q7⟩
  refine steps_cons ?_ ?_
  ·rintro b a w' ⟨v17, ad, g8, m7, ha, Qi, Qb, Qh, Qr, Qx, Q7⟩ hb_ hon hoff
   refine ⟨_, rfl, fun K hK => ?_⟩
   have e6 : a.tmps[6]? = some (.pointer (some ⟨g, 0, none⟩)) := by rw [ha]; exact (putSel_off rfl).trans rfl
   replace ha := qM ha
   refine value_ (w1 := w') (v := .pointer (some ⟨g, 0, none⟩)) (by rfl) rfl ?_ ?_
   ·go_simp
    (try simp only [i64_w])
    try rfl
   refine hK.out _ _ ⟨v17, ad, g8, m7, (by rw [ha.out]; exact putSel_upk 11 hb_ rfl rfl rfl), Qi, Qb, Qh, Qr, Qx, Q7⟩
  refine steps_cons ?_ ?_
  ·rintro b a w' ⟨v17, ad, g8, m7, ha, Qi, Qb, Qh, Qr, Qx, Q7⟩ hb_ hon hoff
   refine ⟨_, rfl, fun K hK => ?_⟩
   have o1 : b 1 = true := hon 1 (by kernel_rfl)
   have o3 : b 3 = true := hon 3 (by kernel_rfl)
   have o6 : b 6 = true := hon 6 (by kernel_rfl)
   have o10 : b 10 = true := hon 10 (by kernel_rfl)
   have e24 : a.tmps[24]? = some (.pointer (some ⟨g, 0, none⟩)) := by rw [ha]; exact putSel_on (e := (11, 24, .pointer (some ⟨g, 0, none⟩))) 11 rfl rfl (hon 11 (by kernel_rfl)) rfl
   replace ha := qM ha
   have Qi0 : IsS103 w w' g s (q + 1 + 1 + 1 + 1) := by have h_ := Qi; simp only [pS, hb_, o1, o3, o6, o10, Bool.false_eq_true, if_false, if_true] at h_; exact h_
   refine goes_ Try.func73 (by kernel_rfl) rfl #[.pointer (some ⟨g, 0, none⟩), .int .i64 4] (by rfl) rfl rfl (by first | (simp only [List.map_toArray, List.map_cons, List.map_nil, Act.eval, Array.getD_eq_getD_getElem?, Option.getD_some, e24]; done) | (simp only [List.map_toArray, List.map_cons, List.map_nil, Act.eval, Array.getD_eq_getD_getElem?, Option.getD_some, e24]; rfl)) ?_
   refine (spec_l30Rd_pick.calls k g s (q + 1 + 1 + 1 + 1) 4 t4 (q + 1 + 1 + 1 + 1 + 1) w _ Qi0 Qb A10.out).mono ?_
   rintro e W1 ⟨rfl, hi, hb, hk⟩
   refine ⟨_, rfl, ?_⟩
   refine hK.out _ _ ⟨v17, ad, g8, m7, (by rw [ha.out]; exact putSel_upk 12 hb_ rfl rfl rfl), (by simp only [pS, up_self, up_ne (show (1 : Nat) ≠ 12 by decide), up_ne (show (3 : Nat) ≠ 12 by decide), up_ne (show (6 : Nat) ≠ 12 by decide), up_ne (show (10 : Nat) ≠ 12 by decide), if_true]; (try simp only [hb_, Bool.false_eq_true, if_false]); exact hi), hb, Qh.keep Qi0 hk, (fun h_ => (Qr h_).imp (fun z => z.keep Qi0 hk) id), (fun h_ => (Qx h_).keep hk), Q7⟩
  refine steps_cons ?_ ?_
  ·rintro b a w' ⟨v17, ad, g8, m7, ha, Qi, Qb, Qh, Qr, Qx, Q7⟩ hb_ hon hoff
   refine ⟨_, rfl, fun K hK => ?_⟩
   have e14 : a.tmps[14]? = some (.int .i64 t0) := by rw [ha]; exact putSel_on (e := (1, 14, .int .i64 t0)) 1 rfl rfl (hon 1 (by kernel_rfl)) rfl
   have e16 : a.tmps[16]? = some (.int .i64 t1) := by rw [ha]; exact putSel_on (e := (3, 16, .int .i64 t1)) 3 rfl rfl (hon 3 (by kernel_rfl)) rfl
   have e21 : a.tmps[21]? = some (.int .i64 (rd [0, 1, 4, 7, 8, 255] t2)) := by rw [ha]; exact putSel_on (e := (8, 21, .int .i64 (rd [0, 1, 4, 7, 8, 255] t2))) 8 rfl rfl (hon 8 (by kernel_rfl)) rfl
   have e23 : a.tmps[23]? = some (.int .i64 t3) := by rw [ha]; exact putSel_on (e := (10, 23, .int .i64 t3)) 10 rfl rfl (hon 10 (by kernel_rfl)) rfl
   have e25 : a.tmps[25]? = some (.int .i64 t4) := by rw [ha]; exact putSel_on (e := (12, 25, .int .i64 t4)) 12 rfl rfl (hon 12 (by kernel_rfl)) rfl
   replace ha := qM ha
   refine value_ (w1 := w') (v := .agg #[.int .i64 t0, .int .i64 t1, .slice none 0 0, .int .i64 (rd [0, 1, 4, 7, 8, 255] t2), .int .i64 t3, .int .i64 t4]) (by rfl) rfl ?_ ?_
   ·go_simp
    (try simp only [i64_w])
    try rfl
   refine hK.out _ _ ⟨v17, ad, g8, m7, (by rw [ha.out]; exact putSel_upk 13 hb_ rfl rfl rfl), Qi, Qb, Qh, Qr, Qx, Q7⟩
  refine steps_cons ?_ ?_
  ·rintro b a w' ⟨v17, ad, g8, m7, ha, Qi, Qb, Qh, Qr, Qx, Q7⟩ hb_ hon hoff
   refine ⟨_, rfl, fun K hK => ?_⟩
   replace ha := qM ha
   have h15 : b 15 = false := hoff 15 (by kernel_rfl)
   refine value_ (w1 := w'.alloc (.cells #[.int .i64 0, .int .i64 0, .slice none 0 0, .int .i64 0, .int .i64 0, .int .i64 0] 33 (0, 0))) (v := .pointer (some ⟨w'.heap.size, 0, none⟩)) (by rfl) rfl ?_ ?_
   ·first | (go_simp; done) | (go_simp; rfl)
   have hb := below_alloc (Below.refl w'.heap.size w') (.cells #[.int .i64 0, .int .i64 0, .slice none 0 0, .int .i64 0, .int .i64 0, .int .i64 0] 33 (0, 0))
   refine hK.out _ _ ⟨v17, ad, w'.heap.size, m7, (by rw [ha.out]; exact putSel_upk 14 hb_ rfl rfl rfl), (show IsS103 w _ g s (pS (up b 14) q) from Qi.below hb), below_step Qb hb, Qh.below hb, (fun h_ => (Qr h_).imp (fun z => z.below hb) id), (fun _ => ⟨by rw [show up b 14 15 = b 15 from up_ne (by decide), h15]; exact blk_new _ _, below_size Qb, Nat.ne_of_lt Qi.lt, Nat.ne_of_lt (blk_lt Qh.1), Nat.ne_of_lt (blk_lt Qh.2.1), Nat.ne_of_lt (blk_lt Qh.2.2.1)⟩), Q7⟩
  refine steps_cons ?_ ?_
  ·rintro b a w' ⟨v17, ad, g8, m7, ha, Qi, Qb, Qh, Qr, Qx, Q7⟩ hb_ hon hoff
   refine ⟨_, rfl, fun K hK => ?_⟩
   have e26 : a.tmps[26]? = some (.agg #[.int .i64 t0, .int .i64 t1, .slice none 0 0, .int .i64 (rd [0, 1, 4, 7, 8, 255] t2), .int .i64 t3, .int .i64 t4]) := by rw [ha]; exact putSel_on (e := (13, 26, .agg #[.int .i64 t0, .int .i64 t1, .slice none 0 0, .int .i64 (rd [0, 1, 4, 7, 8, 255] t2), .int .i64 t3, .int .i64 t4])) 13 rfl rfl (hon 13 (by kernel_rfl)) rfl
   have e8 : a.tmps[8]? = some (.pointer (some ⟨g8, 0, none⟩)) := by rw [ha]; exact putSel_on (e := (14, 8, .pointer (some ⟨g8, 0, none⟩))) 14 rfl rfl (hon 14 (by kernel_rfl)) rfl
   replace ha := qM ha
   obtain ⟨hx, x1, x2, x3, x4, x5⟩ := Qx (hon 14 (by kernel_rfl))
   rw [hb_, if_neg (by decide)] at hx
   have hz0 : w'.cell? ⟨g8, 0, none⟩ = some (.int .i64 0) := (zC hx 0).trans rfl
   have hz1 : w'.cell? ⟨g8, 1, none⟩ = some (.int .i64 0) := (zC hx 1).trans rfl
   have hz2 : w'.cell? ⟨g8, 2, none⟩ = some (.slice none 0 0) := (zC hx 2).trans rfl
   have hz3 : w'.cell? ⟨g8, 3, none⟩ = some (.int .i64 0) := (zC hx 3).trans rfl
   have hz4 : w'.cell? ⟨g8, 4, none⟩ = some (.int .i64 0) := (zC hx 4).trans rfl
   have hz5 : w'.cell? ⟨g8, 5, none⟩ = some (.int .i64 0) := (zC hx 5).trans rfl
   have hf0 := zF hx 0
   have hf1 := zF hx 1
   have hf2 := zF hx 2
   have hf3 := zF hx 3
   have hf4 := zF hx 4
   have hf5 := zF hx 5
   have hs0 := blk_put hx 0 (.int .i64 t0) rfl
   have hs1 := blk_put hs0 1 (.int .i64 t1) rfl
   have hs2 := blk_put hs1 2 (.slice none 0 0) rfl
   have hs3 := blk_put hs2 3 (.int .i64 (rd [0, 1, 4, 7, 8, 255] t2)) rfl
   have hs4 := blk_put hs3 4 (.int .i64 t3) rfl
   have hs5 := blk_put hs4 5 (.int .i64 t4) rfl
   refine skip_ (w1 := ((((((w'.setCell ⟨g8, 0, none⟩ (.int .i64 t0)).setCell ⟨g8, 1, none⟩ (.int .i64 t1)).setCell ⟨g8, 2, none⟩ (.slice none 0 0)).setCell ⟨g8, 3, none⟩ (.int .i64 (rd [0, 1, 4, 7, 8, 255] t2))).setCell ⟨g8, 4, none⟩ (.int .i64 t3)).setCell ⟨g8, 5, none⟩ (.int .i64 t4))) (by rfl) rfl ?_ ?_
   ·clear hs0 hs1 hs2 hs3 hs4 hs5
    go_simp
    try rfl
   refine hK.out _ _ ⟨v17, ad, g8, m7, (by rw [ha.out]; exact (putSel_same rfl).symm), (show IsS103 w _ g s (pS (up b 15) q) from (((((Qi.far x2 _).far x2 _).far x2 _).far x2 _).far x2 _).far x2 _), yS (yS (yS (yS (yS (yS Qb x1) x1) x1) x1) x1) x1, (((((Qh.far hx rfl x3 x4 x5).far hs0 rfl x3 x4 x5).far hs1 rfl x3 x4 x5).far hs2 rfl x3 x4 x5).far hs3 rfl x3 x4 x5).far hs4 rfl x3 x4 x5, fun _ => .inr (up_self b 15), (fun _ => ⟨by rw [up_self, if_pos rfl]; exact hs5, x1, x2, x3, x4, x5⟩), Q7⟩
  exact steps_nil
 rintro b a w31 hall ⟨v17, ad, g8, m7, ha, Qi, Qb, Qh, Qr, Qx, Q7⟩
 clear HD HI HB
 have b0 := hall 0 (by kernel_rfl)
 have b1 := hall 1 (by kernel_rfl)
 have b2 := hall 2 (by kernel_rfl)
 have b3 := hall 3 (by kernel_rfl)
 have b4 := hall 4 (by kernel_rfl)
 have b5 := hall 5 (by kernel_rfl)
 have b6 := hall 6 (by kernel_rfl)
 have b7 := hall 7 (by kernel_rfl)
 have b8 := hall 8 (by kernel_rfl)
 have b9 := hall 9 (by kernel_rfl)
 have b10 := hall 10 (by kernel_rfl)
 have b11 := hall 11 (by kernel_rfl)
 have b12 := hall 12 (by kernel_rfl)
 have b13 := hall 13 (by kernel_rfl)
 have b14 := hall 14 (by kernel_rfl)
 have b15 := hall 15 (by kernel_rfl)
 subst ha
 obtain rfl := Q7 b7
 have HX := qM (Qx b14)
 clear Qx Qr
 simp only [pS, b12, if_true] at Qi
 simp only [b15, if_true] at HX
 simp only [putSel, b0, b1, b2, b3, b4, b5, b6, b7, b8, b9, b10, b11, b12, b13, b14, if_true, Act.put, List.setIfInBounds_toArray, List.set_cons_zero, List.set_cons_succ]
 clear hall b0 b1 b2 b3 b4 b5 b6 b7 b8 b9 b10 b11 b12 b13 b14 b15
 have HI := qM Qi
 have HB := qM Qb
 have HD := qM Qh
 clear Qi Qb Qh
 go_upto_block 0 with ((with_reducible refine gate_callee (f := 73) rfl ?_); refine goesL_ (some 28) rfl rfl Try.func73 (by kernel_rfl) rfl #[.pointer (some ⟨g, 0, none⟩), .int .i64 20] rfl (by (try simp only [List.map_toArray, List.map_cons, List.map_nil]); first | done | rfl) ?_; (with_reducible refine (spec_l30Rd_pick.calls k g s (q + 1 + 1 + 1 + 1 + 1) 20 t5 (q + 1 + 1 + 1 + 1 + 1 + 1) w _ ?side1 ?side2 A11.out).mono ?_); (case side1 => exact HI.out); (case side2 => exact HB.out); rintro e W5 ⟨rfl, hi, hb, hk⟩; refine ⟨_, rfl, ?_⟩; have n0_ := qM (HD.out.keep HI.out hk); have n1_ := qM (HX.out.keep hk); clear HD HX HI HB; have HD := n0_; have HX := n1_; have HI := qM hi; have HB := qM hb; clear n0_ n1_ hi hb hk)
 simp only [Act.put, List.setIfInBounds_toArray, List.set_cons_zero, List.set_cons_succ]
 go_cut [] (fun wx_ => Sw w wx_ gA gB gC g g8 s p h (.slice X1 l1.length C1) (.slice X2 l2.length C2) l1 l2)
 case first =>
  obtain ⟨u, au, zu, yu⟩ := PK'.out 2 (q + 1 + 1 + 1 + 1 + 1 + 1) (by have := Q0.out; omega) (by have := Q1.out; omega) (by omega)
  obtain ⟨l3, j3, a3, z3, y3, n3⟩ := BY'.out (q + 1 + 1 + 1 + 1 + 1 + 1) (by have := Q0.out; omega) (by have := Q1.out; omega)
  have AU := qM au
  have ZU := qM zu
  have YU := qM yu
  have A3 := qM a3
  have Z3 := qM z3
  have Y3 := qM y3
  have N3 := qM n3
  clear au zu yu a3 z3 y3 n3
  by_cases c0 : t5 = 0
  ·have d0 : (t5 == 0) = true := beq_iff_eq.mpr c0
   clear c0
   go_wp2_with (first | ((with_reducible refine gate_dst (N := 31) rfl ?_); refine Kd.R_lit (Kd.int .i64) _ 3 ?hg (N := 31) ?hd (xs := ([(-1), 6] : List Int)) (inner := [.int .i64 (-1), .int .i64 6]) (ok := fun _ => True) (okp := fun _ => True) ?hr ?hp (fun _ hk => hk) trivial (Below.refl _ _) (Nat.le_refl _) (by simp) ?_; (case hd => rfl); (case hg => rfl); (case hr => first | (go_simp; done) | (go_simp; rfl)); (case hp => exact (Reps.one (show Kd.M (Kd.int .i64) _ _ _ (-1) [.int .i64 (-1)] from rfl) (Reps.one (show Kd.M (Kd.int .i64) _ _ _ 6 [.int .i64 6] from rfl) (Reps.none _ _)))); intro vr wr ho hb hg_ hnew_; clear hg_ hnew_; obtain ⟨ar, hrw⟩ := Rw.new (below_size (below_step (yb HB) hb)) (Kd.R_lower ho (below_size (yb HB))) (by decide); have RW := qM hrw; have n0_ := qM (HD.out.below hb); have n1_ := qM (HX.out.below hb); have n2_ := qM (HI.out.below hb); have n3_ := qM (below_step (yb HB) hb); clear HD HX HI HB; have HD := n0_; have HX := n1_; have HI := n2_; have HB := n3_; clear n0_ n1_ n2_ n3_ hb ho hrw) | ((with_reducible refine gate_callee (f := 73) rfl ?_); refine goesL_ (some 33) rfl rfl Try.func73 (by kernel_rfl) rfl #[.pointer (some ⟨g, 0, none⟩), .int .i64 2] rfl (by (try simp only [List.map_toArray, List.map_cons, List.map_nil]); first | done | rfl) ?_; (with_reducible refine (spec_l30Rd_pick.calls k g s (q + 1 + 1 + 1 + 1 + 1 + 1) 2 u (q + 1 + 1 + 1 + 1 + 1 + 1 + 1) w _ ?side1 ?side2 AU.out).mono ?_); (case side1 => exact HI.out); (case side2 => exact HB.out); rintro e W6 ⟨rfl, hi, hb, hk⟩; refine ⟨_, rfl, ?_⟩; have n0_ := qM (HD.out.keep HI.out hk); have n1_ := qM (HX.out.keep hk); have n2_ := qM (RW.out.keep HI.out hk); clear HD HX HI HB RW; have HD := n0_; have HX := n1_; have HI := qM hi; have HB := qM hb; have hx_ := n2_.out.at_ u ZU.out YU.out; obtain ⟨_, cr, er⟩ := n2_.out; subst er; clear n0_ n1_ n2_ hi hb hk; have zu_ := eq_true ZU.out; have yu_ := eq_true YU.out; have yv_ : (2 ≤ u) = False := eq_false (Int.not_le.2 YU.out); have hz_ : W6.cell? ⟨g8, 0, none⟩ = some (.int .i64 t0) := (zC HX.out.1 0).trans rfl; have hf_ := zF HX.out.1 0))
   go_meet
   exact Sw.done (by have := Q0.out; omega) (by have := Q1.out; omega) HI.out HB.out HD.out HX.out rfl
  have d0 : (t5 == 0) = false := beq_eq_false_iff_ne.mpr c0
  clear c0
  by_cases c1 : t5 = 1
  ·have d1 : (t5 == 1) = true := beq_iff_eq.mpr c1
   clear c1
   go_wp2_with (first | ((with_reducible refine gate_dst (N := 39) rfl ?_); refine Kd.R_lit (Kd.int .i64) _ 3 ?hg (N := 39) ?hd (xs := ([(-1), 4] : List Int)) (inner := [.int .i64 (-1), .int .i64 4]) (ok := fun _ => True) (okp := fun _ => True) ?hr ?hp (fun _ hk => hk) trivial (Below.refl _ _) (Nat.le_refl _) (by simp) ?_; (case hd => rfl); (case hg => rfl); (case hr => first | (go_simp; done) | (go_simp; rfl)); (case hp => exact (Reps.one (show Kd.M (Kd.int .i64) _ _ _ (-1) [.int .i64 (-1)] from rfl) (Reps.one (show Kd.M (Kd.int .i64) _ _ _ 4 [.int .i64 4] from rfl) (Reps.none _ _)))); intro vr wr ho hb hg_ hnew_; clear hg_ hnew_; obtain ⟨ar, hrw⟩ := Rw.new (below_size (below_step (yb HB) hb)) (Kd.R_lower ho (below_size (yb HB))) (by decide); have RW := qM hrw; have n0_ := qM (HD.out.below hb); have n1_ := qM (HX.out.below hb); have n2_ := qM (HI.out.below hb); have n3_ := qM (below_step (yb HB) hb); clear HD HX HI HB; have HD := n0_; have HX := n1_; have HI := n2_; have HB := n3_; clear n0_ n1_ n2_ n3_ hb ho hrw) | ((with_reducible refine gate_callee (f := 73) rfl ?_); refine goesL_ (some 41) rfl rfl Try.func73 (by kernel_rfl) rfl #[.pointer (some ⟨g, 0, none⟩), .int .i64 2] rfl (by (try simp only [List.map_toArray, List.map_cons, List.map_nil]); first | done | rfl) ?_; (with_reducible refine (spec_l30Rd_pick.calls k g s (q + 1 + 1 + 1 + 1 + 1 + 1) 2 u (q + 1 + 1 + 1 + 1 + 1 + 1 + 1) w _ ?side1 ?side2 AU.out).mono ?_); (case side1 => exact HI.out); (case side2 => exact HB.out); rintro e W6 ⟨rfl, hi, hb, hk⟩; refine ⟨_, rfl, ?_⟩; have n0_ := qM (HD.out.keep HI.out hk); have n1_ := qM (HX.out.keep hk); have n2_ := qM (RW.out.keep HI.out hk); clear HD HX HI HB RW; have HD := n0_; have HX := n1_; have HI := qM hi; have HB := qM hb; have hx_ := n2_.out.at_ u ZU.out YU.out; obtain ⟨_, cr, er⟩ := n2_.out; subst er; clear n0_ n1_ n2_ hi hb hk; have zu_ := eq_true ZU.out; have yu_ := eq_true YU.out; have yv_ : (2 ≤ u) = False := eq_false (Int.not_le.2 YU.out); have hz_ : W6.cell? ⟨g8, 4, none⟩ = some (.int .i64 t3) := (zC HX.out.1 4).trans rfl; have hf_ := zF HX.out.1 4))
   go_meet
   exact Sw.done (by have := Q0.out; omega) (by have := Q1.out; omega) HI.out HB.out HD.out HX.out rfl
  have d1 : (t5 == 1) = false := beq_eq_false_iff_ne.mpr c1
  clear c1
  by_cases c2 : t5 = 2
  ·have d2 : (t5 == 2) = true := beq_iff_eq.mpr c2
   clear c2
   go_wp2_with (first | ((with_reducible refine gate_dst (N := 47) rfl ?_); refine Kd.R_lit (Kd.int .i64) _ 3 ?hg (N := 47) ?hd (xs := ([(-1), 256] : List Int)) (inner := [.int .i64 (-1), .int .i64 256]) (ok := fun _ => True) (okp := fun _ => True) ?hr ?hp (fun _ hk => hk) trivial (Below.refl _ _) (Nat.le_refl _) (by simp) ?_; (case hd => rfl); (case hg => rfl); (case hr => first | (go_simp; done) | (go_simp; rfl)); (case hp => exact (Reps.one (show Kd.M (Kd.int .i64) _ _ _ (-1) [.int .i64 (-1)] from rfl) (Reps.one (show Kd.M (Kd.int .i64) _ _ _ 256 [.int .i64 256] from rfl) (Reps.none _ _)))); intro vr wr ho hb hg_ hnew_; clear hg_ hnew_; obtain ⟨ar, hrw⟩ := Rw.new (below_size (below_step (yb HB) hb)) (Kd.R_lower ho (below_size (yb HB))) (by decide); have RW := qM hrw; have n0_ := qM (HD.out.below hb); have n1_ := qM (HX.out.below hb); have n2_ := qM (HI.out.below hb); have n3_ := qM (below_step (yb HB) hb); clear HD HX HI HB; have HD := n0_; have HX := n1_; have HI := n2_; have HB := n3_; clear n0_ n1_ n2_ n3_ hb ho hrw) | ((with_reducible refine gate_callee (f := 73) rfl ?_); refine goesL_ (some 49) rfl rfl Try.func73 (by kernel_rfl) rfl #[.pointer (some ⟨g, 0, none⟩), .int .i64 2] rfl (by (try simp only [List.map_toArray, List.map_cons, List.map_nil]); first | done | rfl) ?_; (with_reducible refine (spec_l30Rd_pick.calls k g s (q + 1 + 1 + 1 + 1 + 1 + 1) 2 u (q + 1 + 1 + 1 + 1 + 1 + 1 + 1) w _ ?side1 ?side2 AU.out).mono ?_); (case side1 => exact HI.out); (case side2 => exact HB.out); rintro e W6 ⟨rfl, hi, hb, hk⟩; refine ⟨_, rfl, ?_⟩; have n0_ := qM (HD.out.keep HI.out hk); have n1_ := qM (HX.out.keep hk); have n2_ := qM (RW.out.keep HI.out hk); clear HD HX HI HB RW; have HD := n0_; have HX := n1_; have HI := qM hi; have HB := qM hb; have hx_ := n2_.out.at_ u ZU.out YU.out; obtain ⟨_, cr, er⟩ := n2_.out; subst er; clear n0_ n1_ n2_ hi hb hk; have zu_ := eq_true ZU.out; have yu_ := eq_true YU.out; have yv_ : (2 ≤ u) = False := eq_false (Int.not_le.2 YU.out); have hz_ : W6.cell? ⟨g8, 3, none⟩ = some (.int .i64 (rd [0, 1, 4, 7, 8, 255] t2)) := (zC HX.out.1 3).trans rfl; have hf_ := zF HX.out.1 3))
   go_meet
   exact Sw.done (by have := Q0.out; omega) (by have := Q1.out; omega) HI.out HB.out HD.out HX.out rfl
  have d2 : (t5 == 2) = false := beq_eq_false_iff_ne.mpr c2
  clear c2
  by_cases c3 : t5 = 3
  ·have d3 : (t5 == 3) = true := beq_iff_eq.mpr c3
   clear c3
   go_wp2_with (first | ((with_reducible refine gate_dst (N := 55) rfl ?_); refine Kd.R_lit (Kd.int .i64) _ 3 ?hg (N := 55) ?hd (xs := ([(-1), 10] : List Int)) (inner := [.int .i64 (-1), .int .i64 10]) (ok := fun _ => True) (okp := fun _ => True) ?hr ?hp (fun _ hk => hk) trivial (Below.refl _ _) (Nat.le_refl _) (by simp) ?_; (case hd => rfl); (case hg => rfl); (case hr => first | (go_simp; done) | (go_simp; rfl)); (case hp => exact (Reps.one (show Kd.M (Kd.int .i64) _ _ _ (-1) [.int .i64 (-1)] from rfl) (Reps.one (show Kd.M (Kd.int .i64) _ _ _ 10 [.int .i64 10] from rfl) (Reps.none _ _)))); intro vr wr ho hb hg_ hnew_; clear hg_ hnew_; obtain ⟨ar, hrw⟩ := Rw.new (below_size (below_step (yb HB) hb)) (Kd.R_lower ho (below_size (yb HB))) (by decide); have RW := qM hrw; have n0_ := qM (HD.out.below hb); have n1_ := qM (HX.out.below hb); have n2_ := qM (HI.out.below hb); have n3_ := qM (below_step (yb HB) hb); clear HD HX HI HB; have HD := n0_; have HX := n1_; have HI := n2_; have HB := n3_; clear n0_ n1_ n2_ n3_ hb ho hrw) | ((with_reducible refine gate_callee (f := 73) rfl ?_); refine goesL_ (some 57) rfl rfl Try.func73 (by kernel_rfl) rfl #[.pointer (some ⟨g, 0, none⟩), .int .i64 2] rfl (by (try simp only [List.map_toArray, List.map_cons, List.map_nil]); first | done | rfl) ?_; (with_reducible refine (spec_l30Rd_pick.calls k g s (q + 1 + 1 + 1 + 1 + 1 + 1) 2 u (q + 1 + 1 + 1 + 1 + 1 + 1 + 1) w _ ?side1 ?side2 AU.out).mono ?_); (case side1 => exact HI.out); (case side2 => exact HB.out); rintro e W6 ⟨rfl, hi, hb, hk⟩; refine ⟨_, rfl, ?_⟩; have n0_ := qM (HD.out.keep HI.out hk); have n1_ := qM (HX.out.keep hk); have n2_ := qM (RW.out.keep HI.out hk); clear HD HX HI HB RW; have HD := n0_; have HX := n1_; have HI := qM hi; have HB := qM hb; have hx_ := n2_.out.at_ u ZU.out YU.out; obtain ⟨_, cr, er⟩ := n2_.out; subst er; clear n0_ n1_ n2_ hi hb hk; have zu_ := eq_true ZU.out; have yu_ := eq_true YU.out; have yv_ : (2 ≤ u) = False := eq_false (Int.not_le.2 YU.out); have hz_ : W6.cell? ⟨g8, 1, none⟩ = some (.int .i64 t1) := (zC HX.out.1 1).trans rfl; have hf_ := zF HX.out.1 1))
   go_meet
   exact Sw.done (by have := Q0.out; omega) (by have := Q1.out; omega) HI.out HB.out HD.out HX.out rfl
  have d3 : (t5 == 3) = false := beq_eq_false_iff_ne.mpr c3
  clear c3
  by_cases c4 : t5 = 4
  ·have d4 : (t5 == 4) = true := beq_iff_eq.mpr c4
   clear c4
   have hz_ : W5.cell? ⟨g8, 5, none⟩ = some (.int .i64 t4) := (zC HX.out.1 5).trans rfl
   have hf_ := zF HX.out.1 5
   go_wp2_with (fail)
   go_meet
   exact Sw.done (by have := Q0.out; omega) (by have := Q1.out; omega) HI.out HB.out HD.out HX.out rfl
  have d4 : (t5 == 4) = false := beq_eq_false_iff_ne.mpr c4
  clear c4
  by_cases c5 : t5 = 5
  ·have d5 : (t5 == 5) = true := beq_iff_eq.mpr c5
   clear c5
   go_wp2_with (((with_reducible refine gate_callee (f := 78) rfl ?_); refine goesL_ (some 67) rfl rfl Try.func78 (by kernel_rfl) rfl #[.pointer (some ⟨g, 0, none⟩), .int .i64 9] rfl (by (try simp only [List.map_toArray, List.map_cons, List.map_nil]); first | done | rfl) ?_; (with_reducible refine (spec_l30Bytes.calls k g s (q + 1 + 1 + 1 + 1 + 1 + 1) 9 l3 j3 w _ ?side1 ?side2 A3.out).mono ?_); (case side1 => exact HI.out); (case side2 => exact HB.out); rintro e W6 ⟨v6, rfl, ho, hi, hb, hk⟩; refine ⟨_, rfl, ?_⟩; have n0_ := qM (HD.out.keep HI.out hk); have n1_ := qM (HX.out.keep hk); have RW := qM (Kd.R_lower ho (below_size HB.out)); clear HD HX HI HB; have HD := n0_; have HX := n1_; have HI := qM hi; have HB := qM hb; clear n0_ n1_ hi hb hk ho; obtain ⟨Y6, D6, e6_⟩ := Kd.R_slice RW.out; subst e6_; have hz_ : W6.cell? ⟨g8, 2, none⟩ = some (.slice none 0 0) := (zC HX.out.1 2).trans rfl; have hf_ := zF HX.out.1 2))
   go_meet
   exact Sw.row Z3.out (by have := Y3.out; have := Q1.out; omega) HI.out HB.out HD.out HX.out RW.out N3.out rfl
  have d5 : (t5 == 5) = false := beq_eq_false_iff_ne.mpr c5
  clear c5
  go_wp2_with (fail)
  go_meet
  exact ⟨_, _, _, _, _, [], .slice none 0 0, _, by have := Q0.out; omega, by have := Q1.out; omega, HI.out, HB.out, HD.out, HX.out, Kd.R_nil _ _ _ _ _, by simp⟩
 case rest =>
  clear HI HB HD HX A2 A3 A4 A5 A6 A9 A10 A11 BY'
  obtain ⟨x0, x1, x3, x4, x5, l3, v6, i, hi0, hi1, hI, hBB, hH, hX, hR, hL⟩ := hcut
  obtain ⟨m, j, am, zm, ym, nm, bm⟩ := MS'.out i hi0 (by omega)
  obtain ⟨u, au, _, _⟩ := PK'.out 3 j zm (by omega) (by omega)
  obtain ⟨Y6, D6, e6_⟩ := Kd.R_slice hR
  subst e6_
  have HE := qM (show Ed w wc gA gB gC g8 #[.int .i64 0, .slice none 0 0, .slice none 0 0, .int .i64 0] #[.int .i64 0, .int .i64 0, .slice none 0 0, .int .i64 0, .int .i64 0, .int .i64 0] p h x0 x1 x3 x4 x5 (.slice X1 l1.length C1) (.slice X2 l2.length C2) (.slice Y6 l3.length D6) l1 l2 l3 from ⟨hH.1, hH.2.1, hH.2.2.1, hX.1, hH.2.2.2.1, hH.2.2.2.2, hR⟩)
  have HI := qM hI
  have HB := qM hBB
  have NX := qM hX.2
  have AM := qM am
  have AU := qM au
  have NM := qM nm
  have BM := qM bm
  have NL := qM hL
  clear hi0 hi1 hI hBB hH hX hR hL am zm ym nm bm au PK' MS'
  go_upto_region 17 with (fail)
  refine start_ (n := 11) (S := fun w' => True) (ds := []) #[false, false, false, false, false, false, false, false, false, false, false] (by kernel_rfl) rfl rfl trivial (fun hHeld => ?_)
  refine with_tabW tab17 bits17 (fun HT_ HW_ => ?_)
  have n0_ : Aside0 (Ed w wc.drew gA gB gC g8 #[.int .i64 0, .slice none 0 0, .slice none 0 0, .int .i64 0] #[.int .i64 0, .int .i64 0, .slice none 0 0, .int .i64 0, .int .i64 0, .int .i64 0] p h x0 x1 x3 x4 x5 (.slice X1 l1.length C1) (.slice X2 l2.length C2) (.slice Y6 l3.length D6) l1 l2 l3) := ⟨⟨zD HE.out.1, zD HE.out.2.1, zD HE.out.2.2.1, zD HE.out.2.2.2.1, qD HE.out.2.2.2.2.1, qD HE.out.2.2.2.2.2.1, qD HE.out.2.2.2.2.2.2⟩⟩
  have n1_ := qM (IsS103.drew HI.out)
  have n2_ := qM (yD HB.out)
  clear HE HI HB
  generalize wc.drew = w40 at n0_ n1_ n2_ ⊢
  have HE := n0_
  have HI := n1_
  have HB := n2_
  clear n0_ n1_ n2_
  refine inv_at [0, 1, 2, 3, 4, 5, 6, 7, 8, 9, 10] (fun a0_ b a w' => ∃ (v72 : Value) (v9 : Value), a = putSel a0_ b [(0, 69, .agg #[.int .i64 p, (.slice X1 l1.length C1), (.slice X2 l2.length C2), .int .i64 h]), (1, 70, .agg #[.int .i64 x0, .int .i64 x1, .slice Y6 l3.length D6, .int .i64 x3, .int .i64 x4, .int .i64 x5]), (2, 71, .pointer (some ⟨g, 0, none⟩)), (3, 72, v72), (4, 73, .pointer (some ⟨g, 0, none⟩)), (5, 74, .int .i64 u), (6, 75, .bool (decide (u > 0))), (9, 4, v9), (10, 5, .bool (decide (u > 0)))] ∧ IsS103 w w' g s (pT b i j) ∧ Below w.heap.size w w' ∧ Ed w w' gA gB gC g8 (if b 7 = true then #[.int .i64 p, (.slice X1 l1.length C1), (.slice X2 l2.length C2), .int .i64 h] else #[.int .i64 0, .slice none 0 0, .slice none 0 0, .int .i64 0]) (if b 8 = true then #[.int .i64 x0, .int .i64 x1, .slice Y6 l3.length D6, .int .i64 x3, .int .i64 x4, .int .i64 x5] else #[.int .i64 0, .int .i64 0, .slice none 0 0, .int .i64 0, .int .i64 0, .int .i64 0]) p h x0 x1 x3 x4 x5 (.slice X1 l1.length C1) (.slice X2 l2.length C2) (.slice Y6 l3.length D6) l1 l2 l3 ∧ (b 3 = true → Rm w w' v72 m) ∧ (b 9 = true → v9 = v72)) HT_.out HW_.out (by kernel_rfl) (by kernel_rfl) ?_ ?_ ?_
  ·exact ⟨.bool false, .bool false, by simp only [putSel, Bool.false_eq_true, if_false], HI.out, HB.out, HE.out, fun h_ => absurd h_ (by decide), fun h_ => absurd h_ (by decide)⟩
  ·skip
   clear HE HI HB
   refine steps_cons ?_ ?_
   ·rintro b a w' ⟨v72, v9, ha, Qi, Qb, Qe, Qm, Q9⟩ hb_ hon hoff
    refine ⟨_, rfl, fun K hK => ?_⟩
    have e7 : a.tmps[7]? = some (.pointer (some ⟨gC, 0, none⟩)) := by rw [ha]; exact (putSel_off rfl).trans rfl
    have hc0 : w'.cell? ⟨gC, 0, none⟩ = some (.int .i64 p) := (zC Qe.2.2.1 0).trans rfl
    have hc1 : w'.cell? ⟨gC, 1, none⟩ = some (.slice X1 l1.length C1) := (zC Qe.2.2.1 1).trans rfl
    have hc2 : w'.cell? ⟨gC, 2, none⟩ = some (.slice X2 l2.length C2) := (zC Qe.2.2.1 2).trans rfl
    have hc3 : w'.cell? ⟨gC, 3, none⟩ = some (.int .i64 h) := (zC Qe.2.2.1 3).trans rfl
    replace ha := qM ha
    refine value_ (w1 := w') (v := .agg #[.int .i64 p, (.slice X1 l1.length C1), (.slice X2 l2.length C2), .int .i64 h]) (by rfl) rfl ?_ ?_
    ·go_simp
     (try simp only [i64_w])
     try rfl
    refine hK.out _ _ ⟨v72, v9, (by rw [ha.out]; exact putSel_upk 0 hb_ rfl rfl rfl), Qi, Qb, Qe, Qm, Q9⟩
   refine steps_cons ?_ ?_
   ·rintro b a w' ⟨v72, v9, ha, Qi, Qb, Qe, Qm, Q9⟩ hb_ hon hoff
    refine ⟨_, rfl, fun K hK => ?_⟩
    have e8 : a.tmps[8]? = some (.pointer (some ⟨g8, 0, none⟩)) := by rw [ha]; exact (putSel_off rfl).trans rfl
    have hc0 : w'.cell? ⟨g8, 0, none⟩ = some (.int .i64 x0) := (zC Qe.2.2.2.1 0).trans rfl
    have hc1 : w'.cell? ⟨g8, 1, none⟩ = some (.int .i64 x1) := (zC Qe.2.2.2.1 1).trans rfl
    have hc2 : w'.cell? ⟨g8, 2, none⟩ = some (.slice Y6 l3.length D6) := (zC Qe.2.2.2.1 2).trans rfl
    have hc3 : w'.cell? ⟨g8, 3, none⟩ = some (.int .i64 x3) := (zC Qe.2.2.2.1 3).trans rfl
    have hc4 : w'.cell? ⟨g8, 4, none⟩ = some (.int .i64 x4) := (zC Qe.2.2.2.1 4).trans rfl
    have hc5 : w'.cell? ⟨g8, 5, none⟩ = some (.int .i64 x5) := (zC Qe.2.2.2.1 5).trans rfl
    replace ha := qM ha
    refine value_ (w1 := w') (v := .agg #[.int .i64 x0, .int .i64 x1, .slice Y6 l3.length D6, .int .i64 x3, .int .i64 x4, .int .i64 x5]) (by rfl) rfl ?_ ?_
    ·go_simp
     (try simp only [i64_w])
     try rfl
    refine hK.out _ _ ⟨v72, v9, (by rw [ha.out]; exact putSel_upk 1 hb_ rfl rfl rfl), Qi, Qb, Qe, Qm, Q9⟩
   refine steps_cons ?_ ?_
   ·rintro b a w' ⟨v72, v9, ha, Qi, Qb, Qe, Qm, Q9⟩ hb_ hon hoff
    refine ⟨_, rfl, fun K hK => ?_⟩
    have e6 : a.tmps[6]? = some (.pointer (some ⟨g, 0, none⟩)) := by rw [ha]; exact (putSel_off rfl).trans rfl
    replace ha := qM ha
    refine value_ (w1 := w') (v := .pointer (some ⟨g, 0, none⟩)) (by rfl) rfl ?_ ?_
    ·go_simp
     (try simp only [i64_w])
     try rfl
    refine hK.out _ _ ⟨v72, v9, (by rw [ha.out]; exact putSel_upk 2 hb_ rfl rfl rfl), Qi, Qb, Qe, Qm, Q9⟩
   refine steps_cons ?_ ?_
   ·rintro b a w' ⟨v72, v9, ha, Qi, Qb, Qe, Qm, Q9⟩ hb_ hon hoff
    refine ⟨_, rfl, fun K hK => ?_⟩
    have e71 : a.tmps[71]? = some (.pointer (some ⟨g, 0, none⟩)) := by rw [ha]; exact putSel_on (e := (2, 71, .pointer (some ⟨g, 0, none⟩))) 2 rfl rfl (hon 2 (by kernel_rfl)) rfl
    replace ha := qM ha
    have o5 : b 5 = false := hoff 5 (by kernel_rfl)
    have Qi0 : IsS103 w w' g s i := by have h_ := Qi; simp only [pT, hb_, o5, Bool.false_eq_true, if_false] at h_; exact h_
    refine goes_ Try.func79 (by kernel_rfl) rfl #[.pointer (some ⟨g, 0, none⟩)] (by rfl) rfl rfl (by first | (simp only [List.map_toArray, List.map_cons, List.map_nil, Act.eval, Array.getD_eq_getD_getElem?, Option.getD_some, e71]; done) | (simp only [List.map_toArray, List.map_cons, List.map_nil, Act.eval, Array.getD_eq_getD_getElem?, Option.getD_some, e71]; rfl)) ?_
    refine (spec_l30Message.calls k g s i m j w _ Qi0 Qb AM.out).mono ?_
    rintro e W1 ⟨v72, rfl, ho, hi, hb, hk⟩
    refine ⟨_, rfl, ?_⟩
    refine hK.out _ _ ⟨v72, v9, (by rw [ha.out]; exact putSel_upk 3 hb_ rfl rfl rfl), (by simp only [pT, up_self, up_ne (show (5 : Nat) ≠ 3 by decide), o5, Bool.false_eq_true, if_false, if_true]; exact hi), hb, Qe.keep Qi0 hk, (fun _ => Kd.R_lower ho (below_size Qb)), fun h_ => absurd ((hoff 9 (by kernel_rfl)).symm.trans h_) (by decide)⟩
   refine steps_cons ?_ ?_
   ·rintro b a w' ⟨v72, v9, ha, Qi, Qb, Qe, Qm, Q9⟩ hb_ hon hoff
    refine ⟨_, rfl, fun K hK => ?_⟩
    have e6 : a.tmps[6]? = some (.pointer (some ⟨g, 0, none⟩)) := by rw [ha]; exact (putSel_off rfl).trans rfl
    replace ha := qM ha
    refine value_ (w1 := w') (v := .pointer (some ⟨g, 0, none⟩)) (by rfl) rfl ?_ ?_
    ·go_simp
     (try simp only [i64_w])
     try rfl
    refine hK.out _ _ ⟨v72, v9, (by rw [ha.out]; exact putSel_upk 4 hb_ rfl rfl rfl), Qi, Qb, Qe, Qm, Q9⟩
   refine steps_cons ?_ ?_
   ·rintro b a w' ⟨v72, v9, ha, Qi, Qb, Qe, Qm, Q9⟩ hb_ hon hoff
    refine ⟨_, rfl, fun K hK => ?_⟩
    have e73 : a.tmps[73]? = some (.pointer (some ⟨g, 0, none⟩)) := by rw [ha]; exact putSel_on (e := (4, 73, .pointer (some ⟨g, 0, none⟩))) 4 rfl rfl (hon 4 (by kernel_rfl)) rfl
    replace ha := qM ha
    have o3 : b 3 = true := hon 3 (by kernel_rfl)
    have Qi0 : IsS103 w w' g s j := by have h_ := Qi; simp only [pT, hb_, o3, Bool.false_eq_true, if_false, if_true] at h_; exact h_
    refine goes_ Try.func73 (by kernel_rfl) rfl #[.pointer (some ⟨g, 0, none⟩), .int .i64 3] (by rfl) rfl rfl (by first | (simp only [List.map_toArray, List.map_cons, List.map_nil, Act.eval, Array.getD_eq_getD_getElem?, Option.getD_some, e73]; done) | (simp only [List.map_toArray, List.map_cons, List.map_nil, Act.eval, Array.getD_eq_getD_getElem?, Option.getD_some, e73]; rfl)) ?_
    refine (spec_l30Rd_pick.calls k g s j 3 u (j + 1) w _ Qi0 Qb AU.out).mono ?_
    rintro e W1 ⟨rfl, hi, hb, hk⟩
    refine ⟨_, rfl, ?_⟩
    refine hK.out _ _ ⟨v72, v9, (by rw [ha.out]; exact putSel_upk 5 hb_ rfl rfl rfl), (by simp only [pT, up_self, if_true]; exact hi), hb, Qe.keep Qi0 hk, (fun h_ => (Qm h_).keep Qi0 hk), Q9⟩
   refine steps_cons ?_ ?_
   ·rintro b a w' ⟨v72, v9, ha, Qi, Qb, Qe, Qm, Q9⟩ hb_ hon hoff
    refine ⟨_, rfl, fun K hK => ?_⟩
    have e74 : a.tmps[74]? = some (.int .i64 u) := by rw [ha]; exact putSel_on (e := (5, 74, .int .i64 u)) 5 rfl rfl (hon 5 (by kernel_rfl)) rfl
    replace ha := qM ha
    refine value_ (w1 := w') (v := .bool (decide (u > 0))) (by rfl) rfl ?_ ?_
    ·go_simp
     (try simp only [i64_w])
     try rfl
    refine hK.out _ _ ⟨v72, v9, (by rw [ha.out]; exact putSel_upk 6 hb_ rfl rfl rfl), Qi, Qb, Qe, Qm, Q9⟩
   refine steps_cons ?_ ?_
   ·rintro b a w' ⟨v72, v9, ha, Qi, Qb, Qe, Qm, Q9⟩ hb_ hon hoff
    refine ⟨_, rfl, fun K hK => ?_⟩
    have e69 : a.tmps[69]? = some (.agg #[.int .i64 p, (.slice X1 l1.length C1), (.slice X2 l2.length C2), .int .i64 h]) := by rw [ha]; exact putSel_on (e := (0, 69, .agg #[.int .i64 p, (.slice X1 l1.length C1), (.slice X2 l2.length C2), .int .i64 h])) 0 rfl rfl (hon 0 (by kernel_rfl)) rfl
    have e2 : a.tmps[2]? = some (.pointer (some ⟨gA, 0, none⟩)) := by rw [ha]; exact (putSel_off rfl).trans rfl
    replace ha := qM ha
    have Q0_ := Qe
    simp only [hb_, Bool.false_eq_true, if_false] at Q0_
    have hx := Q0_.1
    have hz0 : w'.cell? ⟨gA, 0, none⟩ = some (.int .i64 0) := (zC hx 0).trans rfl
    have hz1 : w'.cell? ⟨gA, 1, none⟩ = some (.slice none 0 0) := (zC hx 1).trans rfl
    have hz2 : w'.cell? ⟨gA, 2, none⟩ = some (.slice none 0 0) := (zC hx 2).trans rfl
    have hz3 : w'.cell? ⟨gA, 3, none⟩ = some (.int .i64 0) := (zC hx 3).trans rfl
    have hf0 := zF hx 0
    have hf1 := zF hx 1
    have hf2 := zF hx 2
    have hf3 := zF hx 3
    have hn_ : gA ≠ g := Ne.symm (IsS103.ne_blk Qi hx (by decide))
    have Q1_ := Q0_.setA (i := 0) (u := .int .i64 p) NAB.out.symm NAC.out.symm NX.out.2.2.1.symm rfl
    have Q2_ := Q1_.setA (i := 1) (u := .slice X1 l1.length C1) NAB.out.symm NAC.out.symm NX.out.2.2.1.symm rfl
    have Q3_ := Q2_.setA (i := 2) (u := .slice X2 l2.length C2) NAB.out.symm NAC.out.symm NX.out.2.2.1.symm rfl
    have Q4_ := Q3_.setA (i := 3) (u := .int .i64 h) NAB.out.symm NAC.out.symm NX.out.2.2.1.symm rfl
    refine skip_ (w1 := ((((w'.setCell ⟨gA, 0, none⟩ (.int .i64 p)).setCell ⟨gA, 1, none⟩ (.slice X1 l1.length C1)).setCell ⟨gA, 2, none⟩ (.slice X2 l2.length C2)).setCell ⟨gA, 3, none⟩ (.int .i64 h))) (by rfl) rfl ?_ ?_
    ·clear Q0_ Q1_ Q2_ Q3_ Q4_
     go_simp
     try rfl
    refine hK.out _ _ ⟨v72, v9, (by rw [ha.out]; exact (putSel_same rfl).symm), (show IsS103 w _ g s (pT (up b 7) i j) from ((((Qi.far (Ne.symm hn_) _).far (Ne.symm hn_) _).far (Ne.symm hn_) _).far (Ne.symm hn_) _)), (yS (yS (yS (yS Qb GA.out) GA.out) GA.out) GA.out), (by rw [up_self, if_pos rfl]; exact Q4_), (fun h_ => (Rm.far ((Rm.far ((Rm.far ((Rm.far (Qm h_) (Q0_.1) (.inl rfl))) (Q1_.1) (.inl rfl))) (Q2_.1) (.inl rfl))) (Q3_.1) (.inl rfl))), Q9⟩
   refine steps_cons ?_ ?_
   ·rintro b a w' ⟨v72, v9, ha, Qi, Qb, Qe, Qm, Q9⟩ hb_ hon hoff
    refine ⟨_, rfl, fun K hK => ?_⟩
    have e70 : a.tmps[70]? = some (.agg #[.int .i64 x0, .int .i64 x1, .slice Y6 l3.length D6, .int .i64 x3, .int .i64 x4, .int .i64 x5]) := by rw [ha]; exact putSel_on (e := (1, 70, .agg #[.int .i64 x0, .int .i64 x1, .slice Y6 l3.length D6, .int .i64 x3, .int .i64 x4, .int .i64 x5])) 1 rfl rfl (hon 1 (by kernel_rfl)) rfl
    have e3 : a.tmps[3]? = some (.pointer (some ⟨gB, 0, none⟩)) := by rw [ha]; exact (putSel_off rfl).trans rfl
    replace ha := qM ha
    have Q0_ := Qe
    simp only [hb_, Bool.false_eq_true, if_false] at Q0_
    have hx := Q0_.2.1
    have hz0 : w'.cell? ⟨gB, 0, none⟩ = some (.int .i64 0) := (zC hx 0).trans rfl
    have hz1 : w'.cell? ⟨gB, 1, none⟩ = some (.int .i64 0) := (zC hx 1).trans rfl
    have hz2 : w'.cell? ⟨gB, 2, none⟩ = some (.slice none 0 0) := (zC hx 2).trans rfl
    have hz3 : w'.cell? ⟨gB, 3, none⟩ = some (.int .i64 0) := (zC hx 3).trans rfl
    have hz4 : w'.cell? ⟨gB, 4, none⟩ = some (.int .i64 0) := (zC hx 4).trans rfl
    have hz5 : w'.cell? ⟨gB, 5, none⟩ = some (.int .i64 0) := (zC hx 5).trans rfl
    have hf0 := zF hx 0
    have hf1 := zF hx 1
    have hf2 := zF hx 2
    have hf3 := zF hx 3
    have hf4 := zF hx 4
    have hf5 := zF hx 5
    have hn_ : gB ≠ g := Ne.symm (IsS103.ne_blk Qi hx (by decide))
    have Q1_ := Q0_.setB (i := 0) (u := .int .i64 x0) NAB.out NBC.out.symm NX.out.2.2.2.1.symm rfl
    have Q2_ := Q1_.setB (i := 1) (u := .int .i64 x1) NAB.out NBC.out.symm NX.out.2.2.2.1.symm rfl
    have Q3_ := Q2_.setB (i := 2) (u := .slice Y6 l3.length D6) NAB.out NBC.out.symm NX.out.2.2.2.1.symm rfl
    have Q4_ := Q3_.setB (i := 3) (u := .int .i64 x3) NAB.out NBC.out.symm NX.out.2.2.2.1.symm rfl
    have Q5_ := Q4_.setB (i := 4) (u := .int .i64 x4) NAB.out NBC.out.symm NX.out.2.2.2.1.symm rfl
    have Q6_ := Q5_.setB (i := 5) (u := .int .i64 x5) NAB.out NBC.out.symm NX.out.2.2.2.1.symm rfl
    refine skip_ (w1 := ((((((w'.setCell ⟨gB, 0, none⟩ (.int .i64 x0)).setCell ⟨gB, 1, none⟩ (.int .i64 x1)).setCell ⟨gB, 2, none⟩ (.slice Y6 l3.length D6)).setCell ⟨gB, 3, none⟩ (.int .i64 x3)).setCell ⟨gB, 4, none⟩ (.int .i64 x4)).setCell ⟨gB, 5, none⟩ (.int .i64 x5))) (by rfl) rfl ?_ ?_
    ·clear Q0_ Q1_ Q2_ Q3_ Q4_ Q5_ Q6_
     go_simp
     try rfl
    refine hK.out _ _ ⟨v72, v9, (by rw [ha.out]; exact (putSel_same rfl).symm), (show IsS103 w _ g s (pT (up b 8) i j) from ((((((Qi.far (Ne.symm hn_) _).far (Ne.symm hn_) _).far (Ne.symm hn_) _).far (Ne.symm hn_) _).far (Ne.symm hn_) _).far (Ne.symm hn_) _)), (yS (yS (yS (yS (yS (yS Qb GB.out) GB.out) GB.out) GB.out) GB.out) GB.out), (by rw [up_self, if_pos rfl]; exact Q6_), (fun h_ => (Rm.far ((Rm.far ((Rm.far ((Rm.far ((Rm.far ((Rm.far (Qm h_) (Q0_.2.1) (.inr rfl))) (Q1_.2.1) (.inr rfl))) (Q2_.2.1) (.inr rfl))) (Q3_.2.1) (.inr rfl))) (Q4_.2.1) (.inr rfl))) (Q5_.2.1) (.inr rfl))), Q9⟩
   refine steps_cons ?_ ?_
   ·rintro b a w' ⟨v72, v9, ha, Qi, Qb, Qe, Qm, Q9⟩ hb_ hon hoff
    refine ⟨_, rfl, fun K hK => ?_⟩
    have e72 : a.tmps[72]? = some (v72) := by rw [ha]; exact putSel_on (e := (3, 72, v72)) 3 rfl rfl (hon 3 (by kernel_rfl)) rfl
    replace ha := qM ha
    refine value_ (w1 := w') (v := v72) (by rfl) rfl ?_ ?_
    ·go_simp
     (try simp only [i64_w])
     try rfl
    refine hK.out _ _ ⟨v72, v72, (by rw [ha.out]; exact putSel_upk 7 hb_ rfl rfl rfl), Qi, Qb, Qe, Qm, fun _ => rfl⟩
   refine steps_cons ?_ ?_
   ·rintro b a w' ⟨v72, v9, ha, Qi, Qb, Qe, Qm, Q9⟩ hb_ hon hoff
    refine ⟨_, rfl, fun K hK => ?_⟩
    have e75 : a.tmps[75]? = some (.bool (decide (u > 0))) := by rw [ha]; exact putSel_on (e := (6, 75, .bool (decide (u > 0)))) 6 rfl rfl (hon 6 (by kernel_rfl)) rfl
    replace ha := qM ha
    refine value_ (w1 := w') (v := .bool (decide (u > 0))) (by rfl) rfl ?_ ?_
    ·go_simp
     (try simp only [i64_w])
     try rfl
    refine hK.out _ _ ⟨v72, v9, (by rw [ha.out]; exact putSel_upk 8 hb_ rfl rfl rfl), Qi, Qb, Qe, Qm, Q9⟩
   exact steps_nil
  rintro b a w41 hall ⟨v72, v9, ha, Qi, Qb, Qe, Qm, Q9⟩
  clear HE HI HB
  have b0 := hall 0 (by kernel_rfl)
  have b1 := hall 1 (by kernel_rfl)
  have b2 := hall 2 (by kernel_rfl)
  have b3 := hall 3 (by kernel_rfl)
  have b4 := hall 4 (by kernel_rfl)
  have b5 := hall 5 (by kernel_rfl)
  have b6 := hall 6 (by kernel_rfl)
  have b7 := hall 7 (by kernel_rfl)
  have b8 := hall 8 (by kernel_rfl)
  have b9 := hall 9 (by kernel_rfl)
  have b10 := hall 10 (by kernel_rfl)
  subst ha
  obtain rfl := Q9 b9
  simp only [b7, b8, if_true] at Qe
  have HE := qM Qe
  have HM := qM (Qm b3)
  have HB := qM Qb
  clear Qi Qb Qe Qm Q9
  simp only [putSel, b0, b1, b2, b3, b4, b5, b6, b9, b10, if_true, Act.put, List.setIfInBounds_toArray, List.set_cons_zero, List.set_cons_succ]
  clear hall b0 b1 b2 b3 b4 b5 b6 b7 b8 b9 b10
  try go_wp2
  refine bodyPost_ret (results_list (rs := [.cell 2 30, .cell 3 33, .tmp 4, .tmp 5]) rfl (by simp) (.cell gA 30 #[.int .i64 p, (.slice X1 l1.length C1), (.slice X2 l2.length C2), .int .i64 h] (0, 0) _ rfl HE.out.1 Try.underlying30 rfl (by kernel_rfl) (.cell gB 33 #[.int .i64 x0, .int .i64 x1, .slice Y6 l3.length D6, .int .i64 x3, .int .i64 x4, .int .i64 x5] (0, 0) _ rfl HE.out.2.1 Try.underlying33 rfl (by kernel_rfl) (.tmp (.tmp .nil))))) rfl ?_
  exact ⟨x0, x1, x3, x4, x5, l3, m, _, _, _, _, _, rfl, HE.out.2.2.2.2.1, HE.out.2.2.2.2.2.1, HE.out.2.2.2.2.2.2, HM.out, HB.out, NL.out, NM.out, BM.out⟩
end Go.Proofs.YtcnipdbommmkmaaVgDraw
