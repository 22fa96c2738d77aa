/- The walk of laws.FnVmGive: what is drawn is given an answer by the program and by the reference, and all that the law asks holds. Conditions: what the functions answer that it calls, told as equations. -/
import Derived.Test.YtcnipdbommmkmaaVgDraw
import Derived.Test.YtcnipdbommmkmaaPVgx2
import Derived.Test.YtcnipdbommmkmaaPVgx10
set_option linter.unusedVariables false
set_option linter.unusedSimpArgs false
namespace Go.Proofs.YtcnipdbommmkmaaVgLaw
open Go.RowKit Go.Proofs.YtcnipdbommmkmaaW.PrintWords Go.Proofs.YtcnipdbommmkmaaW.PrintLast Go.Proofs.YtcnipdbommmkmaaW.PrintMore Go.Proofs.YtcnipdbommmkmaaAl Go.Proofs.YtcnipdbommmkmaaSq Go.Proofs.Ytcnipdbommmkmaa.PVg Go.Proofs Go.Proofs.YtcnipdbommmkmaaVgDraw
def T5 : Bool × List (List Nat × List Nat) := (true, [([], []), ([], []), ([], []), ([], []), ([], []), ([1, 2, 3, 4], [1, 2, 3, 4]), ([0, 5, 5], [0, 5]), ([6], [6])])
def B5 : List Nat := [0, 0, 0, 0, 0, 30, 63, 127]
theorem tab5 : rtab .any (opsOf Try.f9 5) = T5 := by kernel_rfl
theorem bits5 : waitsOk T5.2 B5 = true := by kernel_rfl
/-- What was drawn, in its boxes. -/
def Fs (w W : World) (gS gK : Nat) (p h x0 x1 x3 x4 x5 : Int) (v1 v2 v6 v10 : Value) (l1 l2 l3 m : List Int) : Prop :=
  W.heap[gS]? = some (.cells #[.int .i64 p, v1, v2, .int .i64 h] 30 (0, 0)) ∧ W.heap[gK]? = some (.cells #[.int .i64 x0, .int .i64 x1, v6, .int .i64 x3, .int .i64 x4, .int .i64 x5] 33 (0, 0)) ∧
  Kd.R (Kd.int .i64) 3 W w.heap.size (fun _ => True) v1 l1 ∧ Kd.R (Kd.int .i64) 3 W w.heap.size (fun _ => True) v2 l2 ∧ Kd.R (Kd.int .u8) 5 W w.heap.size (fun _ => True) v6 l3 ∧ Kd.R (Kd.int .u8) 5 W w.heap.size (fun _ => True) v10 m
/-- What came of it. -/
def Gs (w W : World) (gX : Nat) (p' h' : Int) (v1 v2 : Value) (l1' l2' : List Int) : Prop :=
  W.heap[gX]? = some (.cells #[.int .i64 p', v1, v2, .int .i64 h'] 30 (0, 0)) ∧ Kd.R (Kd.int .i64) 3 W w.heap.size (fun _ => True) v1 l1' ∧ Kd.R (Kd.int .i64) 3 W w.heap.size (fun _ => True) v2 l2'
/-- The same from the reference, in no box. -/
def Vs (w W : World) (v : Value) (p' h' : Int) (l1' l2' : List Int) : Prop := ∃ A1 d1 A2 d2, v = .agg #[.int .i64 p', .slice A1 l1'.length d1, .slice A2 l2'.length d2, .int .i64 h'] ∧ Kd.R (Kd.int .i64) 3 W w.heap.size (fun _ => True) (.slice A1 l1'.length d1) l1' ∧ Kd.R (Kd.int .i64) 3 W w.heap.size (fun _ => True) (.slice A2 l2'.length d2) l2'
theorem cells4 {W : World} {g : Nat} {a b c d : Value} {t : TypeId} (h : W.heap[g]? = some (.cells #[a, b, c, d] t (0, 0))) : W.cell? ⟨g, 0, none⟩ = some a ∧ W.cell? ⟨g, 1, none⟩ = some b ∧ W.cell? ⟨g, 2, none⟩ = some c ∧ W.cell? ⟨g, 3, none⟩ = some d := ⟨blk_cell h 0, blk_cell h 1, blk_cell h 2, blk_cell h 3⟩
theorem cells6 {W : World} {g : Nat} {a b c d e f : Value} {t : TypeId} (h : W.heap[g]? = some (.cells #[a, b, c, d, e, f] t (0, 0))) : W.cell? ⟨g, 0, none⟩ = some a ∧ W.cell? ⟨g, 1, none⟩ = some b ∧ W.cell? ⟨g, 2, none⟩ = some c ∧ W.cell? ⟨g, 3, none⟩ = some d ∧ W.cell? ⟨g, 4, none⟩ = some e ∧ W.cell? ⟨g, 5, none⟩ = some f := ⟨blk_cell h 0, blk_cell h 1, blk_cell h 2, blk_cell h 3, blk_cell h 4, blk_cell h 5⟩
section
variable {w W W1 : World} {gS gK gX : Nat} {p h p' h' x0 x1 x3 x4 x5 : Int} {v1 v2 v6 v10 : Value} {l1 l2 l3 m l1' l2' : List Int}
theorem Fs.below (H : Fs w W gS gK p h x0 x1 x3 x4 x5 v1 v2 v6 v10 l1 l2 l3 m) (hb : Below W.heap.size W W1) : Fs w W1 gS gK p h x0 x1 x3 x4 x5 v1 v2 v6 v10 l1 l2 l3 m :=
  ⟨blk_below H.1 hb, blk_below H.2.1 hb, Kd.R_below H.2.2.1 hb, Kd.R_below H.2.2.2.1 hb, Kd.R_below H.2.2.2.2.1 hb, Kd.R_below H.2.2.2.2.2 hb⟩
theorem Gs.below (H : Gs w W gX p' h' v1 v2 l1' l2') (hb : Below W.heap.size W W1) : Gs w W1 gX p' h' v1 v2 l1' l2' := ⟨blk_below H.1 hb, Kd.R_below H.2.1 hb, Kd.R_below H.2.2 hb⟩
theorem Vs.below {v : Value} (H : Vs w W v p' h' l1' l2') (hb : Below W.heap.size W W1) : Vs w W1 v p' h' l1' l2' := by
  obtain ⟨A1, d1, A2, d2, e, h1, h2⟩ := H
  exact ⟨A1, d1, A2, d2, e, Kd.R_below h1 hb, Kd.R_below h2 hb⟩
theorem row_far {e t : Nat} {d : Kd Int} {g i : Nat} {cs : Array Value} {u v : Value} {xs : List Int} (hr : d.R e W w.heap.size (fun _ => True) v xs) (hg : W.heap[g]? = some (.cells cs t (0, 0))) (ht : ∀ q, q ∈ e :: d.E → q ≠ t) : d.R e (W.setCell ⟨g, i, none⟩ u) w.heap.size (fun _ => True) v xs :=
  Kd.R_mono (qF (p := ⟨g, i, none⟩) (Kd.R_types hr hg ht) (fun _ hk => hk.2) u) (fun _ _ => trivial)
/-- A machine is stored into its box. -/
theorem Gs.init {e : Nat} {d : Kd Int} {v : Value} {xs : List Int} (hX : W.heap[gX]? = some (.cells #[.int .i64 0, .slice none 0 0, .slice none 0 0, .int .i64 0] 30 (0, 0))) (hr : d.R e W w.heap.size (fun _ => True) v xs) (ht : ∀ q, q ∈ e :: d.E → q ≠ 30) :
    d.R e ((((W.setCell ⟨gX, 0, none⟩ (.int .i64 p)).setCell ⟨gX, 1, none⟩ v1).setCell ⟨gX, 2, none⟩ v2).setCell ⟨gX, 3, none⟩ (.int .i64 h)) w.heap.size (fun _ => True) v xs ∧ ((((W.setCell ⟨gX, 0, none⟩ (.int .i64 p)).setCell ⟨gX, 1, none⟩ v1).setCell ⟨gX, 2, none⟩ v2).setCell ⟨gX, 3, none⟩ (.int .i64 h)).heap[gX]? = some (.cells #[.int .i64 p, v1, v2, .int .i64 h] 30 (0, 0)) := by
  have h0 := blk_put hX 0 (.int .i64 p) rfl
  have h1 := blk_put h0 1 v1 rfl
  have h2 := blk_put h1 2 v2 rfl
  exact ⟨row_far (row_far (row_far (row_far hr hX ht) h0 ht) h1 ht) h2 ht, blk_put h2 3 _ rfl⟩
theorem Fs.ask {e : Nat} {d : Kd Int} {v : Value} {xs : List Int} (hX : W.heap[gK]? = some (.cells #[.int .i64 0, .int .i64 0, .slice none 0 0, .int .i64 0, .int .i64 0, .int .i64 0] 33 (0, 0))) (hr : d.R e W w.heap.size (fun _ => True) v xs) (ht : ∀ q, q ∈ e :: d.E → q ≠ 33) :
    d.R e ((((((W.setCell ⟨gK, 0, none⟩ (.int .i64 x0)).setCell ⟨gK, 1, none⟩ (.int .i64 x1)).setCell ⟨gK, 2, none⟩ v6).setCell ⟨gK, 3, none⟩ (.int .i64 x3)).setCell ⟨gK, 4, none⟩ (.int .i64 x4)).setCell ⟨gK, 5, none⟩ (.int .i64 x5)) w.heap.size (fun _ => True) v xs ∧
    ((((((W.setCell ⟨gK, 0, none⟩ (.int .i64 x0)).setCell ⟨gK, 1, none⟩ (.int .i64 x1)).setCell ⟨gK, 2, none⟩ v6).setCell ⟨gK, 3, none⟩ (.int .i64 x3)).setCell ⟨gK, 4, none⟩ (.int .i64 x4)).setCell ⟨gK, 5, none⟩ (.int .i64 x5)).heap[gK]? = some (.cells #[.int .i64 x0, .int .i64 x1, v6, .int .i64 x3, .int .i64 x4, .int .i64 x5] 33 (0, 0)) := by
  have h0 := blk_put hX 0 (.int .i64 x0) rfl
  have h1 := blk_put h0 1 (.int .i64 x1) rfl
  have h2 := blk_put h1 2 v6 rfl
  have h3 := blk_put h2 3 (.int .i64 x3) rfl
  have h4 := blk_put h3 4 (.int .i64 x4) rfl
  exact ⟨row_far (row_far (row_far (row_far (row_far (row_far hr hX ht) h0 ht) h1 ht) h2 ht) h3 ht) h4 ht, blk_put h4 5 _ rfl⟩
theorem far4 {g : Nat} {cs : Array Value} {t : TypeId} (hg : W.heap[g]? = some (.cells cs t (0, 0))) (hn : g ≠ gX) : ((((W.setCell ⟨gX, 0, none⟩ (.int .i64 p)).setCell ⟨gX, 1, none⟩ v1).setCell ⟨gX, 2, none⟩ v2).setCell ⟨gX, 3, none⟩ (.int .i64 h)).heap[g]? = some (.cells cs t (0, 0)) := blk_far (blk_far (blk_far (blk_far hg hn _) hn _) hn _) hn _
theorem far6 {g : Nat} {cs : Array Value} {t : TypeId} (hg : W.heap[g]? = some (.cells cs t (0, 0))) (hn : g ≠ gK) : ((((((W.setCell ⟨gK, 0, none⟩ (.int .i64 x0)).setCell ⟨gK, 1, none⟩ (.int .i64 x1)).setCell ⟨gK, 2, none⟩ v6).setCell ⟨gK, 3, none⟩ (.int .i64 x3)).setCell ⟨gK, 4, none⟩ (.int .i64 x4)).setCell ⟨gK, 5, none⟩ (.int .i64 x5)).heap[g]? = some (.cells cs t (0, 0)) := blk_far (blk_far (blk_far (blk_far (blk_far (blk_far hg hn _) hn _) hn _) hn _) hn _) hn _
end
/-- What the law asks of an answer that was given. -/
def Rl (x0 d1 d2 p p' : Int) (n : Nat) (yes : Bool) : Prop := (x0 = 1 → d1 ≤ 1 ∧ d2 = 0 ∧ p' = p) ∧ (x0 = 2 → d1 ≤ 1 ∧ d2 ≤ (n : Int) ∧ (yes = false → d2 = 0)) ∧ (x0 = 3 → d1 ≤ 2 ∧ d2 = 0) ∧ (x0 ≠ 1 → x0 ≠ 2 → x0 ≠ 3 → d1 = 0 ∧ d2 = 0)
/-- What both answers come to. -/
def Gv (p h : Int) (l1 l2 : List Int) (x0 x1 x3 x4 x5 : Int) (l3 m : List Int) (yes : Bool) (p' h' : Int) (l1' l2' : List Int) (d1 d2 : Int) (ok : Bool) : Prop :=
  impl_VmGive.f 300 p l1 l2 h x0 x1 l3 x3 x4 x5 m yes = some (p', l1', l2', h') ∧ spec_VmGive.f 300 p l1 l2 h x0 x1 l3 x3 x4 x5 m yes = some (p', l1', l2', h') ∧ laws_caState.f 300 p' l1' l2' h' p' l1' l2' h' = some true ∧ spec_VmOk.f 300 p' l1' l2' h' = some ok ∧
  (ok = false → laws_caState.f 300 p' l1' l2' h' 0 [] [] 0 = some true) ∧ laws_caDiffers.f 300 l1 l1' = some d1 ∧ laws_caDiffers.f 300 l2 l2' = some d2 ∧ (ok = true → Rl x0 d1 d2 p p' m.length yes)

set_option maxHeartbeats 8000000 in
set_option maxRecDepth 100000 in
theorem law_walk (A0 : Option Addr) (c0 : Nat) (l0 : List Int) (w : World) (hlen : ¬ (l0.length : Int) > 1048576) (p h : Int) (l1 l2 : List Int)
    (hDR : ∀ W, Below w.heap.size w W → Calls Try.prog 44 #[.slice A0 l0.length c0] W fun e W' => Out W p h l1 l2 e W')
    (hGV : ∀ (x0 x1 x3 x4 x5 : Int) (l3 m : List Int) (yes : Bool), m.length ≤ 9 → (∀ x ∈ m, 0 ≤ x ∧ x ≤ 255) → ∃ p' h' l1' l2' d1 d2 ok, Gv p h l1 l2 x0 x1 x3 x4 x5 l3 m yes p' h' l1' l2' d1 d2 ok)
    (z4 z8 : List Int) (hN1 : impl_VmNew.f = some (0, z4, z8, 0)) (hN2 : impl_VmGive.f 300 0 z4 z8 0 0 0 [] 0 0 0 [] false = some (0, z4, z8, 0)) (hN3 : spec_VmNew.f 300 = some (0, z4, z8, 0)) (hN4 : laws_caState.f 300 0 z4 z8 0 0 z4 z8 0 = some true) :
    Calls Try.prog 9 #[.slice A0 l0.length c0] w fun e W => e = .returned (.bool true) ∧ Below w.heap.size w W := by
 have hu30 := Try.underlying30
 have hu33 := Try.underlying33
 have j0 : decide ((l0.length : Int) > 1048576) = false := decide_eq_false hlen
 have HB := qM (Below.refl w.heap.size w)
 have DR := qM hDR
 have GV := qM hGV
 have N1 := qM hN1
 have N2 := qM hN2
 have N3 := qM hN3
 have N4 := qM hN4
 clear hlen hDR hGV hN1 hN2 hN3 hN4
 go_enter Try.func9, Try.ntmps9
 go_upto_region 4 with (first | ((with_reducible refine gate_callee (f := 44) rfl ?_); refine goesL_ (some 15) rfl rfl Try.func44 (by kernel_rfl) rfl #[.slice A0 l0.length c0] rfl (by (try simp only [List.map_toArray, List.map_cons, List.map_nil]); first | done | rfl) ?_; refine (DR.out _ (yb HB)).mono ?_; rintro e W1 ⟨x0, x1, x3, x4, x5, l3, m, yes, v1, v2, v6, v10, rfl, r1, r2, r6, r10, hb, n3, nm, bm⟩; refine ⟨_, rfl, ?_⟩; have n0_ := qM (below_step (yb HB) hb); obtain ⟨X1, C1, ex1⟩ := Kd.R_slice r1; obtain ⟨X2, C2, ex2⟩ := Kd.R_slice r2; obtain ⟨X6, C6, ex6⟩ := Kd.R_slice r6; obtain ⟨X10, C10, ex10⟩ := Kd.R_slice r10; subst ex1 ex2 ex6 ex10; have H1 := qM (Kd.R_mono (Kd.R_lower r1 (below_size (yb HB))) (fun _ _ => trivial)); have H2 := qM (Kd.R_mono (Kd.R_lower r2 (below_size (yb HB))) (fun _ _ => trivial)); have H6 := qM (Kd.R_lower r6 (below_size (yb HB))); have H10 := qM (Kd.R_lower r10 (below_size (yb HB))); have NM := qM nm; have BM := qM bm; clear HB; have HB := n0_; clear n0_ r1 r2 r6 r10 hb n3 nm bm) | ((with_reducible refine gate_dst (N := 3) rfl ?_); refine box_event ?hg (N := 3) ?hd (cs := #[.int .i64 0, .slice none 0 0, .slice none 0 0, .int .i64 0]) (t := 30) ?hr ?_; (case hd => rfl); (case hg => rfl); (case hr => first | (go_simp; done) | (go_simp; rfl)); intro gS hg wa hbox hb; have GS := qM ((by rw [hg]; exact below_size (yb HB)) : w.heap.size ≤ gS); have n0_ := qM (below_step (yb HB) hb); have m0_ := qM (Kd.R_below (qz H1) hb); have m1_ := qM (Kd.R_below (qz H2) hb); have m2_ := qM (Kd.R_below (qz H6) hb); have m3_ := qM (Kd.R_below (qz H10) hb); clear H1 H2 H6 H10; have H1 := m0_; have H2 := m1_; have H6 := m2_; have H10 := m3_; clear m0_ m1_ m2_ m3_; clear HB; have HB := n0_; have BS := qM hbox; clear n0_ hb hbox hg) | ((with_reducible refine gate_dst (N := 4) rfl ?_); refine box_event ?hg (N := 4) ?hd (cs := #[.int .i64 0, .int .i64 0, .slice none 0 0, .int .i64 0, .int .i64 0, .int .i64 0]) (t := 33) ?hr ?_; (case hd => rfl); (case hg => rfl); (case hr => first | (go_simp; done) | (go_simp; rfl)); intro gK hg wb hbox hb; have GK := qM ((by rw [hg]; exact below_size (yb HB)) : w.heap.size ≤ gK); have NSK := qM ((by rw [hg]; exact Nat.ne_of_lt (blk_lt (bz BS))) : gS ≠ gK); have n0_ := qM (below_step (yb HB) hb); have n1_ := qM (blk_below (bz BS) hb); have m0_ := qM (Kd.R_below (qz H1) hb); have m1_ := qM (Kd.R_below (qz H2) hb); have m2_ := qM (Kd.R_below (qz H6) hb); have m3_ := qM (Kd.R_below (qz H10) hb); clear H1 H2 H6 H10; have H1 := m0_; have H2 := m1_; have H6 := m2_; have H10 := m3_; clear m0_ m1_ m2_ m3_; clear HB BS; have HB := n0_; have BS := n1_; have BK := qM hbox; clear n0_ n1_ hb hbox hg; have hnb_ := NSK.out; have hnc_ := NSK.out.symm; have sz0 : wb.cell? ⟨gS, 0, none⟩ = some (.int .i64 0) := (zC BS.out 0).trans rfl; have sf0 := zF BS.out 0; have sz1 : wb.cell? ⟨gS, 1, none⟩ = some (.slice none 0 0) := (zC BS.out 1).trans rfl; have sf1 := zF BS.out 1; have sz2 : wb.cell? ⟨gS, 2, none⟩ = some (.slice none 0 0) := (zC BS.out 2).trans rfl; have sf2 := zF BS.out 2; have sz3 : wb.cell? ⟨gS, 3, none⟩ = some (.int .i64 0) := (zC BS.out 3).trans rfl; have sf3 := zF BS.out 3; have kz0 : wb.cell? ⟨gK, 0, none⟩ = some (.int .i64 0) := (zC BK.out 0).trans rfl; have kf0 := zF BK.out 0; have kz1 : wb.cell? ⟨gK, 1, none⟩ = some (.int .i64 0) := (zC BK.out 1).trans rfl; have kf1 := zF BK.out 1; have kz2 : wb.cell? ⟨gK, 2, none⟩ = some (.slice none 0 0) := (zC BK.out 2).trans rfl; have kf2 := zF BK.out 2; have kz3 : wb.cell? ⟨gK, 3, none⟩ = some (.int .i64 0) := (zC BK.out 3).trans rfl; have kf3 := zF BK.out 3; have kz4 : wb.cell? ⟨gK, 4, none⟩ = some (.int .i64 0) := (zC BK.out 4).trans rfl; have kf4 := zF BK.out 4; have kz5 : wb.cell? ⟨gK, 5, none⟩ = some (.int .i64 0) := (zC BK.out 5).trans rfl; have kf5 := zF BK.out 5))
 have K1_ := far4 (p := p) (h := h) (v1 := (.slice X1 l1.length C1)) (v2 := (.slice X2 l2.length C2)) BK.out NSK.out.symm
 have H1_ := Gs.init (p := p) (h := h) (v1 := (.slice X1 l1.length C1)) (v2 := (.slice X2 l2.length C2)) BS.out H1.out (by decide)
 have H2_ := Gs.init (p := p) (h := h) (v1 := (.slice X1 l1.length C1)) (v2 := (.slice X2 l2.length C2)) BS.out H2.out (by decide)
 have H6_ := Gs.init (p := p) (h := h) (v1 := (.slice X1 l1.length C1)) (v2 := (.slice X2 l2.length C2)) BS.out H6.out (by decide)
 have H10_ := Gs.init (p := p) (h := h) (v1 := (.slice X1 l1.length C1)) (v2 := (.slice X2 l2.length C2)) BS.out H10.out (by decide)
 have n0_ : Aside0 (Fs w ((((((((((wb.setCell ⟨gS, 0, none⟩ (.int .i64 p)).setCell ⟨gS, 1, none⟩ (.slice X1 l1.length C1)).setCell ⟨gS, 2, none⟩ (.slice X2 l2.length C2)).setCell ⟨gS, 3, none⟩ (.int .i64 h)).setCell ⟨gK, 0, none⟩ (.int .i64 x0)).setCell ⟨gK, 1, none⟩ (.int .i64 x1)).setCell ⟨gK, 2, none⟩ (.slice X6 l3.length C6)).setCell ⟨gK, 3, none⟩ (.int .i64 x3)).setCell ⟨gK, 4, none⟩ (.int .i64 x4)).setCell ⟨gK, 5, none⟩ (.int .i64 x5)) gS gK p h x0 x1 x3 x4 x5 (.slice X1 l1.length C1) (.slice X2 l2.length C2) (.slice X6 l3.length C6) (.slice X10 m.length C10) l1 l2 l3 m) := ⟨far6 H1_.2 NSK.out, (Fs.ask K1_ H1_.1 (by decide)).2, (Fs.ask K1_ H1_.1 (by decide)).1, (Fs.ask K1_ H2_.1 (by decide)).1, (Fs.ask K1_ H6_.1 (by decide)).1, (Fs.ask K1_ H10_.1 (by decide)).1⟩
 have n1_ : Aside0 (Below w.heap.size w ((((((((((wb.setCell ⟨gS, 0, none⟩ (.int .i64 p)).setCell ⟨gS, 1, none⟩ (.slice X1 l1.length C1)).setCell ⟨gS, 2, none⟩ (.slice X2 l2.length C2)).setCell ⟨gS, 3, none⟩ (.int .i64 h)).setCell ⟨gK, 0, none⟩ (.int .i64 x0)).setCell ⟨gK, 1, none⟩ (.int .i64 x1)).setCell ⟨gK, 2, none⟩ (.slice X6 l3.length C6)).setCell ⟨gK, 3, none⟩ (.int .i64 x3)).setCell ⟨gK, 4, none⟩ (.int .i64 x4)).setCell ⟨gK, 5, none⟩ (.int .i64 x5))) := ⟨(yS (yS (yS (yS (yS (yS (yS (yS (yS (yS HB.out GS.out) GS.out) GS.out) GS.out) GK.out) GK.out) GK.out) GK.out) GK.out) GK.out)⟩
 clear K1_ H1_ H2_ H6_ H10_ H1 H2 H6 H10 BS BK HB sz0 sf0 sz1 sf1 sz2 sf2 sz3 sf3 kz0 kf0 kz1 kf1 kz2 kf2 kz3 kf3 kz4 kf4 kz5 kf5
 generalize ((((((((((wb.setCell ⟨gS, 0, none⟩ (.int .i64 p)).setCell ⟨gS, 1, none⟩ (.slice X1 l1.length C1)).setCell ⟨gS, 2, none⟩ (.slice X2 l2.length C2)).setCell ⟨gS, 3, none⟩ (.int .i64 h)).setCell ⟨gK, 0, none⟩ (.int .i64 x0)).setCell ⟨gK, 1, none⟩ (.int .i64 x1)).setCell ⟨gK, 2, none⟩ (.slice X6 l3.length C6)).setCell ⟨gK, 3, none⟩ (.int .i64 x3)).setCell ⟨gK, 4, none⟩ (.int .i64 x4)).setCell ⟨gK, 5, none⟩ (.int .i64 x5)) = w5 at n0_ n1_ ⊢
 have FS := n0_
 have HB := n1_
 clear n0_ n1_
 obtain ⟨p', h', l1', l2', d1, d2, ok, gv1, gv2, gv3, gv4, gv5, gv6, gv7, gv8⟩ := GV.out x0 x1 x3 x4 x5 l3 m yes NM.out BM.out
 have V1 := qM gv1
 have V2 := qM gv2
 have V3 := qM gv3
 have V4 := qM gv4
 have V5 := qM gv5
 have V6 := qM gv6
 have V7 := qM gv7
 have V8 := qM gv8
 clear gv1 gv2 gv3 gv4 gv5 gv6 gv7 gv8 GV
 obtain ⟨qs0, qs1, qs2, qs3⟩ := cells4 FS.out.1
 obtain ⟨qk0, qk1, qk2, qk3, qk4, qk5⟩ := cells6 FS.out.2.1
 go_upto_region 5 with (first | ((with_reducible refine gate_callee (f := 17) rfl ?_); refine goesL_ (some 24) rfl rfl Try.func17 (by kernel_rfl) rfl #[.agg #[.int .i64 p, .slice X1 l1.length C1, .slice X2 l2.length C2, .int .i64 h], .agg #[.int .i64 x0, .int .i64 x1, .slice X6 l3.length C6, .int .i64 x3, .int .i64 x4, .int .i64 x5], .slice X10 m.length C10, .bool yes] rfl (by (try simp only [List.map_toArray, List.map_cons, List.map_nil]); first | done | rfl) ?_; refine (impl_VmGive.calls 300 p X1 C1 l1 X2 C2 l2 h x0 x1 X6 C6 l3 x3 x4 x5 X10 C10 m yes p' l1' l2' h' _ (qR FS.out.2.2.1).2.2 (qR FS.out.2.2.1).2.1 (qR FS.out.2.2.2.1).2.2 (qR FS.out.2.2.2.1).2.1 (qR FS.out.2.2.2.2.1).2.2 (qR FS.out.2.2.2.2.1).2.1 (qR FS.out.2.2.2.2.2).2.2 (qR FS.out.2.2.2.2.2).2.1 V1.out).mono ?_; rintro e W6 ⟨y1, y2, rfl, r1, r2, hb⟩; refine ⟨_, rfl, ?_⟩; obtain ⟨E1, F1, ey1⟩ := Kd.R_slice r1; obtain ⟨E2, F2, ey2⟩ := Kd.R_slice r2; subst ey1 ey2; have n0_ := qM (below_step HB.out hb); have G1 := qM (Kd.R_mono (Kd.R_lower r1 (below_size HB.out)) (fun _ _ => trivial)); have G2 := qM (Kd.R_mono (Kd.R_lower r2 (below_size HB.out)) (fun _ _ => trivial)); have n1_ := qM (FS.out.below hb); clear HB FS; have HB := n0_; have FS := n1_; clear n0_ n1_ r1 r2 hb) | ((with_reducible refine gate_dst (N := 7) rfl ?_); refine box_event ?hg (N := 7) ?hd (cs := #[.int .i64 0, .slice none 0 0, .slice none 0 0, .int .i64 0]) (t := 30) ?hr ?_; (case hd => rfl); (case hg => rfl); (case hr => first | (go_simp; done) | (go_simp; rfl)); intro gX hg wx hbox hb; have GX := qM ((by rw [hg]; exact below_size (yb HB)) : w.heap.size ≤ gX); have NSX := qM ((by rw [hg]; exact Nat.ne_of_lt (blk_lt FS.out.1)) : gS ≠ gX); have NKX := qM ((by rw [hg]; exact Nat.ne_of_lt (blk_lt FS.out.2.1)) : gK ≠ gX); have n0_ := qM (below_step (yb HB) hb); have n1_ := qM (FS.out.below hb); have n2_ := qM (Kd.R_below (qz G1) hb); have n3_ := qM (Kd.R_below (qz G2) hb); clear HB FS G1 G2; have HB := n0_; have FS := n1_; have G1 := n2_; have G2 := n3_; have BX := qM hbox; clear n0_ n1_ n2_ n3_ hb hbox hg; have xz0 : wx.cell? ⟨gX, 0, none⟩ = some (.int .i64 0) := (zC BX.out 0).trans rfl; have xf0 := zF BX.out 0; have xz1 : wx.cell? ⟨gX, 1, none⟩ = some (.slice none 0 0) := (zC BX.out 1).trans rfl; have xf1 := zF BX.out 1; have xz2 : wx.cell? ⟨gX, 2, none⟩ = some (.slice none 0 0) := (zC BX.out 2).trans rfl; have xf2 := zF BX.out 2; have xz3 : wx.cell? ⟨gX, 3, none⟩ = some (.int .i64 0) := (zC BX.out 3).trans rfl; have xf3 := zF BX.out 3))
 have n0_ : Aside0 (Fs w ((((wx.setCell ⟨gX, 0, none⟩ (.int .i64 p')).setCell ⟨gX, 1, none⟩ (.slice E1 l1'.length F1)).setCell ⟨gX, 2, none⟩ (.slice E2 l2'.length F2)).setCell ⟨gX, 3, none⟩ (.int .i64 h')) gS gK p h x0 x1 x3 x4 x5 (.slice X1 l1.length C1) (.slice X2 l2.length C2) (.slice X6 l3.length C6) (.slice X10 m.length C10) l1 l2 l3 m) := ⟨⟨far4 FS.out.1 NSX.out, far4 FS.out.2.1 NKX.out, (Gs.init BX.out FS.out.2.2.1 (by decide)).1, (Gs.init BX.out FS.out.2.2.2.1 (by decide)).1, (Gs.init BX.out FS.out.2.2.2.2.1 (by decide)).1, (Gs.init BX.out FS.out.2.2.2.2.2 (by decide)).1⟩⟩
 have n1_ : Aside0 (Gs w ((((wx.setCell ⟨gX, 0, none⟩ (.int .i64 p')).setCell ⟨gX, 1, none⟩ (.slice E1 l1'.length F1)).setCell ⟨gX, 2, none⟩ (.slice E2 l2'.length F2)).setCell ⟨gX, 3, none⟩ (.int .i64 h')) gX p' h' (.slice E1 l1'.length F1) (.slice E2 l2'.length F2) l1' l2') := ⟨⟨(Gs.init BX.out G1.out (by decide)).2, (Gs.init BX.out G1.out (by decide)).1, (Gs.init BX.out G2.out (by decide)).1⟩⟩
 have n2_ : Aside0 (Below w.heap.size w ((((wx.setCell ⟨gX, 0, none⟩ (.int .i64 p')).setCell ⟨gX, 1, none⟩ (.slice E1 l1'.length F1)).setCell ⟨gX, 2, none⟩ (.slice E2 l2'.length F2)).setCell ⟨gX, 3, none⟩ (.int .i64 h'))) := ⟨(yS (yS (yS (yS HB.out GX.out) GX.out) GX.out) GX.out)⟩
 clear FS G1 G2 BX HB qs0 qs1 qs2 qs3 qk0 qk1 qk2 qk3 qk4 qk5 xz0 xf0 xz1 xf1 xz2 xf2 xz3 xf3
 generalize ((((wx.setCell ⟨gX, 0, none⟩ (.int .i64 p')).setCell ⟨gX, 1, none⟩ (.slice E1 l1'.length F1)).setCell ⟨gX, 2, none⟩ (.slice E2 l2'.length F2)).setCell ⟨gX, 3, none⟩ (.int .i64 h')) = w8 at n0_ n1_ n2_ ⊢
 have FS := n0_
 have GX_ := n1_
 have HB := n2_
 clear n0_ n1_ n2_
 refine start_ (n := 8) (S := fun w' => True) (ds := []) #[false, false, false, false, false, false, false, false] (by kernel_rfl) rfl rfl trivial (fun hHeld => ?_)
 refine with_tabW tab5 bits5 (fun HT_ HW_ => ?_)
 have n0_ := qM (FS.out.below (below_drew (Below.refl _ _)))
 have n1_ := qM (GX_.out.below (below_drew (Below.refl _ _)))
 have n2_ := qM (yD HB.out)
 clear FS GX_ HB
 generalize w8.drew = w9 at n0_ n1_ n2_ ⊢
 have FS := n0_
 have GX_ := n1_
 have HB := n2_
 clear n0_ n1_ n2_
 refine inv_at [0, 1, 2, 3, 4, 5, 6, 7] (fun a0_ b a w' => ∃ (v30 : Value), a = putSel a0_ b [(0, 25, .agg #[.int .i64 p', .slice E1 l1'.length F1, .slice E2 l2'.length F2, .int .i64 h']), (1, 26, .agg #[.int .i64 p, .slice X1 l1.length C1, .slice X2 l2.length C2, .int .i64 h]), (2, 27, .agg #[.int .i64 x0, .int .i64 x1, .slice X6 l3.length C6, .int .i64 x3, .int .i64 x4, .int .i64 x5]), (3, 28, .slice X10 m.length C10), (4, 29, .bool yes), (5, 30, v30), (6, 31, .bool true), (7, 32, .bool false)] ∧ Fs w w' gS gK p h x0 x1 x3 x4 x5 (.slice X1 l1.length C1) (.slice X2 l2.length C2) (.slice X6 l3.length C6) (.slice X10 m.length C10) l1 l2 l3 m ∧ Gs w w' gX p' h' (.slice E1 l1'.length F1) (.slice E2 l2'.length F2) l1' l2' ∧ Below w.heap.size w w' ∧ (b 5 = true → Vs w w' v30 p' h' l1' l2')) HT_.out HW_.out (by kernel_rfl) (by kernel_rfl) ?_ ?_ ?_
 ·exact ⟨.bool false, by simp only [putSel, Bool.false_eq_true, if_false], FS.out, GX_.out, HB.out, fun h_ => absurd h_ (by decide)⟩
 ·skip
  clear FS GX_ HB
  refine steps_cons ?_ ?_
  ·rintro b a w' ⟨v30, ha, Qf, Qg, Qb, Qv⟩ hb_ hon hoff
   refine ⟨_, rfl, fun K hK => ?_⟩
   have e7 : a.tmps[7]? = some (.pointer (some ⟨gX, 0, none⟩)) := by rw [ha]; exact (putSel_off rfl).trans rfl
   obtain ⟨c0_, c1_, c2_, c3_⟩ := cells4 Qg.1
   replace ha := qM ha
   refine value_ (w1 := w') (v := .agg #[.int .i64 p', .slice E1 l1'.length F1, .slice E2 l2'.length F2, .int .i64 h']) (by rfl) rfl ?_ ?_
   ·go_simp
    (try simp only [i64_w])
    try rfl
   refine hK.out _ _ ⟨v30, (by rw [ha.out]; exact putSel_upk 0 hb_ rfl rfl rfl), Qf, Qg, Qb, Qv⟩
  refine steps_cons ?_ ?_
  ·rintro b a w' ⟨v30, ha, Qf, Qg, Qb, Qv⟩ hb_ hon hoff
   refine ⟨_, rfl, fun K hK => ?_⟩
   have e3 : a.tmps[3]? = some (.pointer (some ⟨gS, 0, none⟩)) := by rw [ha]; exact (putSel_off rfl).trans rfl
   obtain ⟨c0_, c1_, c2_, c3_⟩ := cells4 Qf.1
   replace ha := qM ha
   refine value_ (w1 := w') (v := .agg #[.int .i64 p, .slice X1 l1.length C1, .slice X2 l2.length C2, .int .i64 h]) (by rfl) rfl ?_ ?_
   ·go_simp
    (try simp only [i64_w])
    try rfl
   refine hK.out _ _ ⟨v30, (by rw [ha.out]; exact putSel_upk 1 hb_ rfl rfl rfl), Qf, Qg, Qb, Qv⟩
  refine steps_cons ?_ ?_
  ·rintro b a w' ⟨v30, ha, Qf, Qg, Qb, Qv⟩ hb_ hon hoff
   refine ⟨_, rfl, fun K hK => ?_⟩
   have e4 : a.tmps[4]? = some (.pointer (some ⟨gK, 0, none⟩)) := by rw [ha]; exact (putSel_off rfl).trans rfl
   obtain ⟨c0_, c1_, c2_, c3_, c4_, c5_⟩ := cells6 Qf.2.1
   replace ha := qM ha
   refine value_ (w1 := w') (v := .agg #[.int .i64 x0, .int .i64 x1, .slice X6 l3.length C6, .int .i64 x3, .int .i64 x4, .int .i64 x5]) (by rfl) rfl ?_ ?_
   ·go_simp
    (try simp only [i64_w])
    try rfl
   refine hK.out _ _ ⟨v30, (by rw [ha.out]; exact putSel_upk 2 hb_ rfl rfl rfl), Qf, Qg, Qb, Qv⟩
  refine steps_cons ?_ ?_
  ·rintro b a w' ⟨v30, ha, Qf, Qg, Qb, Qv⟩ hb_ hon hoff
   refine ⟨_, rfl, fun K hK => ?_⟩
   have e5 : a.tmps[5]? = some (.slice X10 m.length C10) := by rw [ha]; exact (putSel_off rfl).trans rfl
   replace ha := qM ha
   refine value_ (w1 := w') (v := .slice X10 m.length C10) (by rfl) rfl ?_ ?_
   ·go_simp
    (try simp only [i64_w])
    try rfl
   refine hK.out _ _ ⟨v30, (by rw [ha.out]; exact putSel_upk 3 hb_ rfl rfl rfl), Qf, Qg, Qb, Qv⟩
  refine steps_cons ?_ ?_
  ·rintro b a w' ⟨v30, ha, Qf, Qg, Qb, Qv⟩ hb_ hon hoff
   refine ⟨_, rfl, fun K hK => ?_⟩
   have e6 : a.tmps[6]? = some (.bool yes) := by rw [ha]; exact (putSel_off rfl).trans rfl
   replace ha := qM ha
   refine value_ (w1 := w') (v := .bool yes) (by rfl) rfl ?_ ?_
   ·go_simp
    (try simp only [i64_w])
    try rfl
   refine hK.out _ _ ⟨v30, (by rw [ha.out]; exact putSel_upk 4 hb_ rfl rfl rfl), Qf, Qg, Qb, Qv⟩
  refine steps_cons ?_ ?_
  ·rintro b a w' ⟨v30, ha, Qf, Qg, Qb, Qv⟩ hb_ hon hoff
   refine ⟨_, rfl, fun K hK => ?_⟩
   have e26 : a.tmps[26]? = some (.agg #[.int .i64 p, .slice X1 l1.length C1, .slice X2 l2.length C2, .int .i64 h]) := by rw [ha]; exact putSel_on (e := (1, 26, .agg #[.int .i64 p, .slice X1 l1.length C1, .slice X2 l2.length C2, .int .i64 h])) 1 rfl rfl (hon 1 (by kernel_rfl)) rfl
   have e27 : a.tmps[27]? = some (.agg #[.int .i64 x0, .int .i64 x1, .slice X6 l3.length C6, .int .i64 x3, .int .i64 x4, .int .i64 x5]) := by rw [ha]; exact putSel_on (e := (2, 27, .agg #[.int .i64 x0, .int .i64 x1, .slice X6 l3.length C6, .int .i64 x3, .int .i64 x4, .int .i64 x5])) 2 rfl rfl (hon 2 (by kernel_rfl)) rfl
   have e28 : a.tmps[28]? = some (.slice X10 m.length C10) := by rw [ha]; exact putSel_on (e := (3, 28, .slice X10 m.length C10)) 3 rfl rfl (hon 3 (by kernel_rfl)) rfl
   have e29 : a.tmps[29]? = some (.bool yes) := by rw [ha]; exact putSel_on (e := (4, 29, .bool yes)) 4 rfl rfl (hon 4 (by kernel_rfl)) rfl
   replace ha := qM ha
   refine goes_ Try.func13 (by kernel_rfl) rfl #[.agg #[.int .i64 p, .slice X1 l1.length C1, .slice X2 l2.length C2, .int .i64 h], .agg #[.int .i64 x0, .int .i64 x1, .slice X6 l3.length C6, .int .i64 x3, .int .i64 x4, .int .i64 x5], .slice X10 m.length C10, .bool yes] (by rfl) rfl rfl (by first | (simp only [List.map_toArray, List.map_cons, List.map_nil, Act.eval, Array.getD_eq_getD_getElem?, Option.getD_some, e26, e27, e28, e29]; done) | (simp only [List.map_toArray, List.map_cons, List.map_nil, Act.eval, Array.getD_eq_getD_getElem?, Option.getD_some, e26, e27, e28, e29]; rfl)) ?_
   refine (spec_VmGive.calls 300 p X1 C1 l1 X2 C2 l2 h x0 x1 X6 C6 l3 x3 x4 x5 X10 C10 m yes p' l1' l2' h' w' (qR Qf.2.2.1).2.2 (qR Qf.2.2.1).2.1 (qR Qf.2.2.2.1).2.2 (qR Qf.2.2.2.1).2.1 (qR Qf.2.2.2.2.1).2.2 (qR Qf.2.2.2.2.1).2.1 (qR Qf.2.2.2.2.2).2.2 (qR Qf.2.2.2.2.2).2.1 V2.out).mono ?_
   rintro e W1 ⟨y1, y2, rfl, r1, r2, hb⟩
   refine ⟨_, rfl, ?_⟩
   obtain ⟨A1, a1, ey1⟩ := Kd.R_slice r1
   obtain ⟨A2, a2, ey2⟩ := Kd.R_slice r2
   subst ey1 ey2
   refine hK.out _ _ ⟨_, (by rw [ha.out]; exact putSel_upk 5 hb_ rfl rfl rfl), Qf.below hb, Qg.below hb, below_step Qb hb, fun _ => ⟨A1, a1, A2, a2, rfl, Kd.R_mono (Kd.R_lower r1 (below_size Qb)) (fun _ _ => trivial), Kd.R_mono (Kd.R_lower r2 (below_size Qb)) (fun _ _ => trivial)⟩⟩
  refine steps_cons ?_ ?_
  ·rintro b a w' ⟨v30, ha, Qf, Qg, Qb, Qv⟩ hb_ hon hoff
   refine ⟨_, rfl, fun K hK => ?_⟩
   have e25 : a.tmps[25]? = some (.agg #[.int .i64 p', .slice E1 l1'.length F1, .slice E2 l2'.length F2, .int .i64 h']) := by rw [ha]; exact putSel_on (e := (0, 25, .agg #[.int .i64 p', .slice E1 l1'.length F1, .slice E2 l2'.length F2, .int .i64 h'])) 0 rfl rfl (hon 0 (by kernel_rfl)) rfl
   have e30 : a.tmps[30]? = some (v30) := by rw [ha]; exact putSel_on (e := (5, 30, v30)) 5 rfl rfl (hon 5 (by kernel_rfl)) rfl
   obtain ⟨A1, a1, A2, a2, hv_, r1, r2⟩ := Qv (hon 5 (by kernel_rfl))
   have e30' := e30
   rw [hv_] at e30'
   replace ha := qM ha
   have hv := qM hv_
   clear hv_ e30
   refine goes_ Try.func42 (by kernel_rfl) rfl #[.agg #[.int .i64 p', .slice E1 l1'.length F1, .slice E2 l2'.length F2, .int .i64 h'], .agg #[.int .i64 p', .slice A1 l1'.length a1, .slice A2 l2'.length a2, .int .i64 h']] (by rfl) rfl rfl (by first | (simp only [List.map_toArray, List.map_cons, List.map_nil, Act.eval, Array.getD_eq_getD_getElem?, Option.getD_some, e25, e30']; done) | (simp only [List.map_toArray, List.map_cons, List.map_nil, Act.eval, Array.getD_eq_getD_getElem?, Option.getD_some, e25, e30']; rfl)) ?_
   refine (laws_caState.calls 300 p' E1 F1 l1' E2 F2 l2' h' p' A1 a1 l1' A2 a2 l2' h' true w' (qR Qg.2.1).2.2 (qR Qg.2.1).2.1 (qR Qg.2.2).2.2 (qR Qg.2.2).2.1 (qR r1).2.2 (qR r1).2.1 (qR r2).2.2 (qR r2).2.1 V3.out).mono ?_
   rintro e W1 ⟨rfl, hb⟩
   refine ⟨_, rfl, ?_⟩
   refine hK.out _ _ ⟨v30, (by rw [ha.out]; exact putSel_upk 6 hb_ rfl rfl rfl), Qf.below hb, Qg.below hb, below_step Qb hb, fun h_ => (Qv h_).below hb⟩
  refine steps_cons ?_ ?_
  ·rintro b a w' ⟨v30, ha, Qf, Qg, Qb, Qv⟩ hb_ hon hoff
   refine ⟨_, rfl, fun K hK => ?_⟩
   have e31 : a.tmps[31]? = some (.bool true) := by rw [ha]; exact putSel_on (e := (6, 31, .bool true)) 6 rfl rfl (hon 6 (by kernel_rfl)) rfl
   replace ha := qM ha
   refine value_ (w1 := w') (v := .bool false) (by rfl) rfl ?_ ?_
   ·go_simp
    (try simp only [i64_w])
    try rfl
   refine hK.out _ _ ⟨v30, (by rw [ha.out]; exact putSel_upk 7 hb_ rfl rfl rfl), Qf, Qg, Qb, Qv⟩
  exact steps_nil
 rintro b a w10 hall ⟨v30, ha, Qf, Qg, Qb, Qv⟩
 clear FS GX_ HB Qv
 have b0 := hall 0 (by kernel_rfl)
 have b1 := hall 1 (by kernel_rfl)
 have b2 := hall 2 (by kernel_rfl)
 have b3 := hall 3 (by kernel_rfl)
 have b4 := hall 4 (by kernel_rfl)
 have b5 := hall 5 (by kernel_rfl)
 have b6 := hall 6 (by kernel_rfl)
 have b7 := hall 7 (by kernel_rfl)
 subst ha
 have FS := qM Qf
 have GX_ := qM Qg
 have HB := qM Qb
 clear Qf Qg Qb
 simp only [putSel, b0, b1, b2, b3, b4, b5, b6, b7, if_true, Act.put, List.setIfInBounds_toArray, List.set_cons_zero, List.set_cons_succ]
 clear hall b0 b1 b2 b3 b4 b5 b6 b7 V1 V2 V3
 obtain ⟨gx0, gx1, gx2, gx3⟩ := cells4 GX_.out.1
 cases ok
 case false =>
  clear V6 V7 V8
  go_wp2_with (first | ((with_reducible refine gate_callee (f := 27) rfl ?_); refine goesL_ (some 34) rfl rfl Try.func27 (by kernel_rfl) rfl #[.agg #[.int .i64 p', .slice E1 l1'.length F1, .slice E2 l2'.length F2, .int .i64 h']] rfl (by (try simp only [List.map_toArray, List.map_cons, List.map_nil]); first | done | rfl) ?_; refine (spec_VmOk.calls 300 p' E1 F1 l1' E2 F2 l2' h' _ _ (qR GX_.out.2.1).2.2 (qR GX_.out.2.1).2.1 (qR GX_.out.2.2).2.2 (qR GX_.out.2.2).2.1 V4.out).mono ?_; rintro e W11 ⟨rfl, hb⟩; refine ⟨_, rfl, ?_⟩; have n0_ := qM (FS.out.below hb); have n1_ := qM (GX_.out.below hb); have n2_ := qM (below_step HB.out hb); clear FS GX_ HB; have FS := n0_; have GX_ := n1_; have HB := n2_; clear n0_ n1_ n2_ hb; clear gx0 gx1 gx2 gx3; obtain ⟨gx0, gx1, gx2, gx3⟩ := cells4 GX_.out.1; obtain ⟨gs0, gs1, gs2, gs3⟩ := cells4 FS.out.1) | ((with_reducible refine gate_callee (f := 42) rfl ?_); refine goesL_ (some 38) rfl rfl Try.func42 (by kernel_rfl) rfl #[.agg #[.int .i64 p', .slice E1 l1'.length F1, .slice E2 l2'.length F2, .int .i64 h'], .agg #[.int .i64 0, .slice none 0 0, .slice none 0 0, .int .i64 0]] rfl (by (try simp only [List.map_toArray, List.map_cons, List.map_nil]); first | done | rfl) ?_; refine (laws_caState.calls 300 p' E1 F1 l1' E2 F2 l2' h' 0 none 0 [] none 0 [] 0 true _ (qR GX_.out.2.1).2.2 (qR GX_.out.2.1).2.1 (qR GX_.out.2.2).2.2 (qR GX_.out.2.2).2.1 (Kd.C_nil _ _) (Nat.le_refl _) (Kd.C_nil _ _) (Nat.le_refl _) (V5.out rfl)).mono ?_; rintro e W12 ⟨rfl, hb⟩; refine ⟨_, rfl, ?_⟩; have n2_ := qM (below_step HB.out hb); clear HB; have HB := n2_; clear n2_ hb) | ((with_reducible refine gate_dst (N := 42) rfl ?_); (try (refine gate_guard (by rfl) ?_; dsimp only)); refine Kd.R_lit (Kd.int .u8) _ 5 ?hg (N := 42) ?hd (xs := ([] : List Int)) (inner := []) (ok := fun _ => True) (okp := fun _ => True) ?hr ?hp (fun _ hk => hk) trivial (Below.refl _ _) (Nat.le_refl _) (by simp) ?_; (case hd => rfl); (case hg => rfl); (case hr => first | (go_simp; done) | (go_simp; rfl)); (case hp => exact (Reps.none _ _)); intro v42 W14 ho hb hg_ hnew_; clear hg_ hnew_; obtain ⟨A3, a3, ey3⟩ := Kd.R_slice ho; subst ey3; have n0_ := qM (Kd.R_below (qz R1) hb); have n1_ := qM (Kd.R_below (qz R2) hb); have n2_ := qM (below_step (yb HB) hb); have R3 := qM ho; clear R1 R2 HB; have R1 := n0_; have R2 := n1_; have HB := n2_; clear n0_ n1_ n2_ hb ho) | (go_at_call 26; refine (impl_VmNew.calls 0 z4 z8 0 _ N1.out).mono ?_; rintro e W13 ⟨y1, y2, rfl, r1, r2, hb⟩; obtain ⟨A1, a1, ey1⟩ := Kd.R_slice r1; obtain ⟨A2, a2, ey2⟩ := Kd.R_slice r2; subst ey1 ey2; have R1 := qM r1; have R2 := qM r2; have n2_ := qM (below_step (yb HB) hb); clear HB; have HB := n2_; clear n2_ hb r1 r2) | (go_at_call 17; refine (impl_VmGive.calls 300 0 _ _ z4 _ _ z8 0 0 0 none 0 [] 0 0 0 _ _ [] false 0 z4 z8 0 _ (qR R1.out).2.2 (qR R1.out).2.1 (qR R2.out).2.2 (qR R2.out).2.1 (Kd.C_nil _ _) (Nat.le_refl _) (qR R3.out).2.2 (qR R3.out).2.1 N2.out).mono ?_; rintro e W15 ⟨y3, y4, rfl, r3, r4, hb⟩; obtain ⟨A4, a4, ey3⟩ := Kd.R_slice r3; obtain ⟨A5, a5, ey4⟩ := Kd.R_slice r4; subst ey3 ey4; have R4 := qM r3; have R5 := qM r4; have n2_ := qM (below_step HB.out hb); clear HB; have HB := n2_; clear n2_ hb r3 r4) | (go_at_call 25; refine (spec_VmNew.calls 300 0 z4 z8 0 _ N3.out).mono ?_; rintro e W16 ⟨y5, y6, rfl, r5, r6, hb⟩; obtain ⟨A6, a6, ey5⟩ := Kd.R_slice r5; obtain ⟨A7, a7, ey6⟩ := Kd.R_slice r6; subst ey5 ey6; have n0_ := qM (Kd.R_below (qz R4) hb); have n1_ := qM (Kd.R_below (qz R5) hb); have R6 := qM r5; have R7 := qM r6; have n2_ := qM (below_step HB.out hb); clear HB R4 R5; have HB := n2_; have R4 := n0_; have R5 := n1_; clear n0_ n1_ n2_ hb r5 r6) | (go_at_call 42; refine (laws_caState.calls 300 0 _ _ z4 _ _ z8 0 0 _ _ z4 _ _ z8 0 true _ (qR R4.out).2.2 (qR R4.out).2.1 (qR R5.out).2.2 (qR R5.out).2.1 (qR R6.out).2.2 (qR R6.out).2.1 (qR R7.out).2.2 (qR R7.out).2.1 N4.out).mono ?_; rintro e W17 ⟨rfl, hb⟩; have n2_ := qM (below_step HB.out hb); clear HB; have HB := n2_; clear n2_ hb))
  go_ret
  exact ⟨rfl, yb HB⟩
 case true =>
  clear V5 N1 N2 N3 N4
  have RL := qM (V8.out rfl)
  clear V8
  have hls_ : (GX_.out.1 = GX_.out.1) := rfl
  clear hls_
  by_cases k1 : x0 = 1
  ·obtain ⟨q1, q2, q3⟩ := RL.out.1 k1
   have k1_ : (x0 == 1) = true := beq_iff_eq.mpr k1
   have q1_ : decide (d1 ≤ 1) = true := decide_eq_true q1
   have q2_ : (d2 == 0) = true := beq_iff_eq.mpr q2
   have q3_ : (p' == p) = true := beq_iff_eq.mpr q3
   clear k1 q1 q2 q3 RL
   go_wp2_with (first | ((with_reducible refine gate_callee (f := 27) rfl ?_); refine goesL_ (some 34) rfl rfl Try.func27 (by kernel_rfl) rfl #[.agg #[.int .i64 p', .slice E1 l1'.length F1, .slice E2 l2'.length F2, .int .i64 h']] rfl (by (try simp only [List.map_toArray, List.map_cons, List.map_nil]); first | done | rfl) ?_; refine (spec_VmOk.calls 300 p' E1 F1 l1' E2 F2 l2' h' _ _ (qR GX_.out.2.1).2.2 (qR GX_.out.2.1).2.1 (qR GX_.out.2.2).2.2 (qR GX_.out.2.2).2.1 V4.out).mono ?_; rintro e W11 ⟨rfl, hb⟩; refine ⟨_, rfl, ?_⟩; have n0_ := qM (FS.out.below hb); have n1_ := qM (GX_.out.below hb); have n2_ := qM (below_step HB.out hb); clear FS GX_ HB; have FS := n0_; have GX_ := n1_; have HB := n2_; clear n0_ n1_ n2_ hb; clear gx0 gx1 gx2 gx3; obtain ⟨gx0, gx1, gx2, gx3⟩ := cells4 GX_.out.1; obtain ⟨gs0, gs1, gs2, gs3⟩ := cells4 FS.out.1) | ((with_reducible refine gate_callee (f := 45) rfl ?_); refine goesL_ (some 51) rfl rfl Try.func45 (by kernel_rfl) rfl #[.slice X1 l1.length C1, .slice E1 l1'.length F1] rfl (by (try simp only [List.map_toArray, List.map_cons, List.map_nil]); first | done | rfl) ?_; refine (laws_caDiffers.calls 300 X1 C1 l1 E1 F1 l1' d1 _ (qR FS.out.2.2.1).2.2 (qR FS.out.2.2.1).2.1 (qR GX_.out.2.1).2.2 (qR GX_.out.2.1).2.1 V6.out).mono ?_; rintro e W20 ⟨rfl, hd⟩; refine ⟨_, rfl, ?_⟩; have hb := hd.below; have n0_ := qM (FS.out.below hb); have n1_ := qM (GX_.out.below hb); have n2_ := qM (below_step HB.out hb); clear FS GX_ HB; have FS := n0_; have GX_ := n1_; have HB := n2_; clear n0_ n1_ n2_ hb; clear hd gx0 gx1 gx2 gx3 gs0 gs1 gs2 gs3; obtain ⟨gx0, gx1, gx2, gx3⟩ := cells4 GX_.out.1; obtain ⟨gs0, gs1, gs2, gs3⟩ := cells4 FS.out.1; (try clear gk0 gk1 gk2 gk3 gk4 gk5); obtain ⟨gk0, gk1, gk2, gk3, gk4, gk5⟩ := cells6 FS.out.2.1) | ((with_reducible refine gate_callee (f := 45) rfl ?_); refine goesL_ (some 56) rfl rfl Try.func45 (by kernel_rfl) rfl #[.slice X2 l2.length C2, .slice E2 l2'.length F2] rfl (by (try simp only [List.map_toArray, List.map_cons, List.map_nil]); first | done | rfl) ?_; refine (laws_caDiffers.calls 300 X2 C2 l2 E2 F2 l2' d2 _ (qR FS.out.2.2.2.1).2.2 (qR FS.out.2.2.2.1).2.1 (qR GX_.out.2.2).2.2 (qR GX_.out.2.2).2.1 V7.out).mono ?_; rintro e W21 ⟨rfl, hd⟩; refine ⟨_, rfl, ?_⟩; have hb := hd.below; have n0_ := qM (FS.out.below hb); have n1_ := qM (GX_.out.below hb); have n2_ := qM (below_step HB.out hb); clear FS GX_ HB; have FS := n0_; have GX_ := n1_; have HB := n2_; clear n0_ n1_ n2_ hb; clear hd gx0 gx1 gx2 gx3 gs0 gs1 gs2 gs3; obtain ⟨gx0, gx1, gx2, gx3⟩ := cells4 GX_.out.1; obtain ⟨gs0, gs1, gs2, gs3⟩ := cells4 FS.out.1; (try clear gk0 gk1 gk2 gk3 gk4 gk5); obtain ⟨gk0, gk1, gk2, gk3, gk4, gk5⟩ := cells6 FS.out.2.1))
   go_ret
   exact ⟨rfl, yb HB⟩
  have k1_ : (x0 == 1) = false := beq_eq_false_iff_ne.mpr k1
  by_cases k2 : x0 = 2
  ·obtain ⟨q1, q2, q3⟩ := RL.out.2.1 k2
   have k2_ : (x0 == 2) = true := beq_iff_eq.mpr k2
   have q1_ : decide (d1 ≤ 1) = true := decide_eq_true q1
   have q2_ : decide (d2 ≤ (m.length : Int)) = true := decide_eq_true q2
   have Q3 := qM q3
   clear k1 k2 q1 q2 q3 RL
   cases yes
   case false =>
    have q4_ : (d2 == 0) = true := beq_iff_eq.mpr (Q3.out rfl)
    go_wp2_with (first | ((with_reducible refine gate_callee (f := 27) rfl ?_); refine goesL_ (some 34) rfl rfl Try.func27 (by kernel_rfl) rfl #[.agg #[.int .i64 p', .slice E1 l1'.length F1, .slice E2 l2'.length F2, .int .i64 h']] rfl (by (try simp only [List.map_toArray, List.map_cons, List.map_nil]); first | done | rfl) ?_; refine (spec_VmOk.calls 300 p' E1 F1 l1' E2 F2 l2' h' _ _ (qR GX_.out.2.1).2.2 (qR GX_.out.2.1).2.1 (qR GX_.out.2.2).2.2 (qR GX_.out.2.2).2.1 V4.out).mono ?_; rintro e W11 ⟨rfl, hb⟩; refine ⟨_, rfl, ?_⟩; have n0_ := qM (FS.out.below hb); have n1_ := qM (GX_.out.below hb); have n2_ := qM (below_step HB.out hb); clear FS GX_ HB; have FS := n0_; have GX_ := n1_; have HB := n2_; clear n0_ n1_ n2_ hb; clear gx0 gx1 gx2 gx3; obtain ⟨gx0, gx1, gx2, gx3⟩ := cells4 GX_.out.1; obtain ⟨gs0, gs1, gs2, gs3⟩ := cells4 FS.out.1) | ((with_reducible refine gate_callee (f := 45) rfl ?_); refine goesL_ (some 51) rfl rfl Try.func45 (by kernel_rfl) rfl #[.slice X1 l1.length C1, .slice E1 l1'.length F1] rfl (by (try simp only [List.map_toArray, List.map_cons, List.map_nil]); first | done | rfl) ?_; refine (laws_caDiffers.calls 300 X1 C1 l1 E1 F1 l1' d1 _ (qR FS.out.2.2.1).2.2 (qR FS.out.2.2.1).2.1 (qR GX_.out.2.1).2.2 (qR GX_.out.2.1).2.1 V6.out).mono ?_; rintro e W20 ⟨rfl, hd⟩; refine ⟨_, rfl, ?_⟩; have hb := hd.below; have n0_ := qM (FS.out.below hb); have n1_ := qM (GX_.out.below hb); have n2_ := qM (below_step HB.out hb); clear FS GX_ HB; have FS := n0_; have GX_ := n1_; have HB := n2_; clear n0_ n1_ n2_ hb; clear hd gx0 gx1 gx2 gx3 gs0 gs1 gs2 gs3; obtain ⟨gx0, gx1, gx2, gx3⟩ := cells4 GX_.out.1; obtain ⟨gs0, gs1, gs2, gs3⟩ := cells4 FS.out.1; (try clear gk0 gk1 gk2 gk3 gk4 gk5); obtain ⟨gk0, gk1, gk2, gk3, gk4, gk5⟩ := cells6 FS.out.2.1) | ((with_reducible refine gate_callee (f := 45) rfl ?_); refine goesL_ (some 56) rfl rfl Try.func45 (by kernel_rfl) rfl #[.slice X2 l2.length C2, .slice E2 l2'.length F2] rfl (by (try simp only [List.map_toArray, List.map_cons, List.map_nil]); first | done | rfl) ?_; refine (laws_caDiffers.calls 300 X2 C2 l2 E2 F2 l2' d2 _ (qR FS.out.2.2.2.1).2.2 (qR FS.out.2.2.2.1).2.1 (qR GX_.out.2.2).2.2 (qR GX_.out.2.2).2.1 V7.out).mono ?_; rintro e W21 ⟨rfl, hd⟩; refine ⟨_, rfl, ?_⟩; have hb := hd.below; have n0_ := qM (FS.out.below hb); have n1_ := qM (GX_.out.below hb); have n2_ := qM (below_step HB.out hb); clear FS GX_ HB; have FS := n0_; have GX_ := n1_; have HB := n2_; clear n0_ n1_ n2_ hb; clear hd gx0 gx1 gx2 gx3 gs0 gs1 gs2 gs3; obtain ⟨gx0, gx1, gx2, gx3⟩ := cells4 GX_.out.1; obtain ⟨gs0, gs1, gs2, gs3⟩ := cells4 FS.out.1; (try clear gk0 gk1 gk2 gk3 gk4 gk5); obtain ⟨gk0, gk1, gk2, gk3, gk4, gk5⟩ := cells6 FS.out.2.1))
    go_ret
    exact ⟨rfl, yb HB⟩
   case true =>
    go_wp2_with (first | ((with_reducible refine gate_callee (f := 27) rfl ?_); refine goesL_ (some 34) rfl rfl Try.func27 (by kernel_rfl) rfl #[.agg #[.int .i64 p', .slice E1 l1'.length F1, .slice E2 l2'.length F2, .int .i64 h']] rfl (by (try simp only [List.map_toArray, List.map_cons, List.map_nil]); first | done | rfl) ?_; refine (spec_VmOk.calls 300 p' E1 F1 l1' E2 F2 l2' h' _ _ (qR GX_.out.2.1).2.2 (qR GX_.out.2.1).2.1 (qR GX_.out.2.2).2.2 (qR GX_.out.2.2).2.1 V4.out).mono ?_; rintro e W11 ⟨rfl, hb⟩; refine ⟨_, rfl, ?_⟩; have n0_ := qM (FS.out.below hb); have n1_ := qM (GX_.out.below hb); have n2_ := qM (below_step HB.out hb); clear FS GX_ HB; have FS := n0_; have GX_ := n1_; have HB := n2_; clear n0_ n1_ n2_ hb; clear gx0 gx1 gx2 gx3; obtain ⟨gx0, gx1, gx2, gx3⟩ := cells4 GX_.out.1; obtain ⟨gs0, gs1, gs2, gs3⟩ := cells4 FS.out.1) | ((with_reducible refine gate_callee (f := 45) rfl ?_); refine goesL_ (some 51) rfl rfl Try.func45 (by kernel_rfl) rfl #[.slice X1 l1.length C1, .slice E1 l1'.length F1] rfl (by (try simp only [List.map_toArray, List.map_cons, List.map_nil]); first | done | rfl) ?_; refine (laws_caDiffers.calls 300 X1 C1 l1 E1 F1 l1' d1 _ (qR FS.out.2.2.1).2.2 (qR FS.out.2.2.1).2.1 (qR GX_.out.2.1).2.2 (qR GX_.out.2.1).2.1 V6.out).mono ?_; rintro e W20 ⟨rfl, hd⟩; refine ⟨_, rfl, ?_⟩; have hb := hd.below; have n0_ := qM (FS.out.below hb); have n1_ := qM (GX_.out.below hb); have n2_ := qM (below_step HB.out hb); clear FS GX_ HB; have FS := n0_; have GX_ := n1_; have HB := n2_; clear n0_ n1_ n2_ hb; clear hd gx0 gx1 gx2 gx3 gs0 gs1 gs2 gs3; obtain ⟨gx0, gx1, gx2, gx3⟩ := cells4 GX_.out.1; obtain ⟨gs0, gs1, gs2, gs3⟩ := cells4 FS.out.1; (try clear gk0 gk1 gk2 gk3 gk4 gk5); obtain ⟨gk0, gk1, gk2, gk3, gk4, gk5⟩ := cells6 FS.out.2.1) | ((with_reducible refine gate_callee (f := 45) rfl ?_); refine goesL_ (some 56) rfl rfl Try.func45 (by kernel_rfl) rfl #[.slice X2 l2.length C2, .slice E2 l2'.length F2] rfl (by (try simp only [List.map_toArray, List.map_cons, List.map_nil]); first | done | rfl) ?_; refine (laws_caDiffers.calls 300 X2 C2 l2 E2 F2 l2' d2 _ (qR FS.out.2.2.2.1).2.2 (qR FS.out.2.2.2.1).2.1 (qR GX_.out.2.2).2.2 (qR GX_.out.2.2).2.1 V7.out).mono ?_; rintro e W21 ⟨rfl, hd⟩; refine ⟨_, rfl, ?_⟩; have hb := hd.below; have n0_ := qM (FS.out.below hb); have n1_ := qM (GX_.out.below hb); have n2_ := qM (below_step HB.out hb); clear FS GX_ HB; have FS := n0_; have GX_ := n1_; have HB := n2_; clear n0_ n1_ n2_ hb; clear hd gx0 gx1 gx2 gx3 gs0 gs1 gs2 gs3; obtain ⟨gx0, gx1, gx2, gx3⟩ := cells4 GX_.out.1; obtain ⟨gs0, gs1, gs2, gs3⟩ := cells4 FS.out.1; (try clear gk0 gk1 gk2 gk3 gk4 gk5); obtain ⟨gk0, gk1, gk2, gk3, gk4, gk5⟩ := cells6 FS.out.2.1))
    go_ret
    exact ⟨rfl, yb HB⟩
  have k2_ : (x0 == 2) = false := beq_eq_false_iff_ne.mpr k2
  by_cases k3 : x0 = 3
  ·obtain ⟨q1, q2⟩ := RL.out.2.2.1 k3
   have k3_ : (x0 == 3) = true := beq_iff_eq.mpr k3
   have q1_ : decide (d1 ≤ 2) = true := decide_eq_true q1
   have q2_ : (d2 == 0) = true := beq_iff_eq.mpr q2
   clear k1 k2 k3 q1 q2 RL
   go_wp2_with (first | ((with_reducible refine gate_callee (f := 27) rfl ?_); refine goesL_ (some 34) rfl rfl Try.func27 (by kernel_rfl) rfl #[.agg #[.int .i64 p', .slice E1 l1'.length F1, .slice E2 l2'.length F2, .int .i64 h']] rfl (by (try simp only [List.map_toArray, List.map_cons, List.map_nil]); first | done | rfl) ?_; refine (spec_VmOk.calls 300 p' E1 F1 l1' E2 F2 l2' h' _ _ (qR GX_.out.2.1).2.2 (qR GX_.out.2.1).2.1 (qR GX_.out.2.2).2.2 (qR GX_.out.2.2).2.1 V4.out).mono ?_; rintro e W11 ⟨rfl, hb⟩; refine ⟨_, rfl, ?_⟩; have n0_ := qM (FS.out.below hb); have n1_ := qM (GX_.out.below hb); have n2_ := qM (below_step HB.out hb); clear FS GX_ HB; have FS := n0_; have GX_ := n1_; have HB := n2_; clear n0_ n1_ n2_ hb; clear gx0 gx1 gx2 gx3; obtain ⟨gx0, gx1, gx2, gx3⟩ := cells4 GX_.out.1; obtain ⟨gs0, gs1, gs2, gs3⟩ := cells4 FS.out.1) | ((with_reducible refine gate_callee (f := 45) rfl ?_); refine goesL_ (some 51) rfl rfl Try.func45 (by kernel_rfl) rfl #[.slice X1 l1.length C1, .slice E1 l1'.length F1] rfl (by (try simp only [List.map_toArray, List.map_cons, List.map_nil]); first | done | rfl) ?_; refine (laws_caDiffers.calls 300 X1 C1 l1 E1 F1 l1' d1 _ (qR FS.out.2.2.1).2.2 (qR FS.out.2.2.1).2.1 (qR GX_.out.2.1).2.2 (qR GX_.out.2.1).2.1 V6.out).mono ?_; rintro e W20 ⟨rfl, hd⟩; refine ⟨_, rfl, ?_⟩; have hb := hd.below; have n0_ := qM (FS.out.below hb); have n1_ := qM (GX_.out.below hb); have n2_ := qM (below_step HB.out hb); clear FS GX_ HB; have FS := n0_; have GX_ := n1_; have HB := n2_; clear n0_ n1_ n2_ hb; clear hd gx0 gx1 gx2 gx3 gs0 gs1 gs2 gs3; obtain ⟨gx0, gx1, gx2, gx3⟩ := cells4 GX_.out.1; obtain ⟨gs0, gs1, gs2, gs3⟩ := cells4 FS.out.1; (try clear gk0 gk1 gk2 gk3 gk4 gk5); obtain ⟨gk0, gk1, gk2, gk3, gk4, gk5⟩ := cells6 FS.out.2.1) | ((with_reducible refine gate_callee (f := 45) rfl ?_); refine goesL_ (some 56) rfl rfl Try.func45 (by kernel_rfl) rfl #[.slice X2 l2.length C2, .slice E2 l2'.length F2] rfl (by (try simp only [List.map_toArray, List.map_cons, List.map_nil]); first | done | rfl) ?_; refine (laws_caDiffers.calls 300 X2 C2 l2 E2 F2 l2' d2 _ (qR FS.out.2.2.2.1).2.2 (qR FS.out.2.2.2.1).2.1 (qR GX_.out.2.2).2.2 (qR GX_.out.2.2).2.1 V7.out).mono ?_; rintro e W21 ⟨rfl, hd⟩; refine ⟨_, rfl, ?_⟩; have hb := hd.below; have n0_ := qM (FS.out.below hb); have n1_ := qM (GX_.out.below hb); have n2_ := qM (below_step HB.out hb); clear FS GX_ HB; have FS := n0_; have GX_ := n1_; have HB := n2_; clear n0_ n1_ n2_ hb; clear hd gx0 gx1 gx2 gx3 gs0 gs1 gs2 gs3; obtain ⟨gx0, gx1, gx2, gx3⟩ := cells4 GX_.out.1; obtain ⟨gs0, gs1, gs2, gs3⟩ := cells4 FS.out.1; (try clear gk0 gk1 gk2 gk3 gk4 gk5); obtain ⟨gk0, gk1, gk2, gk3, gk4, gk5⟩ := cells6 FS.out.2.1))
   go_ret
   exact ⟨rfl, yb HB⟩
  have k3_ : (x0 == 3) = false := beq_eq_false_iff_ne.mpr k3
  obtain ⟨q1, q2⟩ := RL.out.2.2.2 k1 k2 k3
  have q1_ : (d1 == 0) = true := beq_iff_eq.mpr q1
  have q2_ : (d2 == 0) = true := beq_iff_eq.mpr q2
  clear k1 k2 k3 q1 q2 RL
  go_wp2_with (first | ((with_reducible refine gate_callee (f := 27) rfl ?_); refine goesL_ (some 34) rfl rfl Try.func27 (by kernel_rfl) rfl #[.agg #[.int .i64 p', .slice E1 l1'.length F1, .slice E2 l2'.length F2, .int .i64 h']] rfl (by (try simp only [List.map_toArray, List.map_cons, List.map_nil]); first | done | rfl) ?_; refine (spec_VmOk.calls 300 p' E1 F1 l1' E2 F2 l2' h' _ _ (qR GX_.out.2.1).2.2 (qR GX_.out.2.1).2.1 (qR GX_.out.2.2).2.2 (qR GX_.out.2.2).2.1 V4.out).mono ?_; rintro e W11 ⟨rfl, hb⟩; refine ⟨_, rfl, ?_⟩; have n0_ := qM (FS.out.below hb); have n1_ := qM (GX_.out.below hb); have n2_ := qM (below_step HB.out hb); clear FS GX_ HB; have FS := n0_; have GX_ := n1_; have HB := n2_; clear n0_ n1_ n2_ hb; clear gx0 gx1 gx2 gx3; obtain ⟨gx0, gx1, gx2, gx3⟩ := cells4 GX_.out.1; obtain ⟨gs0, gs1, gs2, gs3⟩ := cells4 FS.out.1) | ((with_reducible refine gate_callee (f := 45) rfl ?_); refine goesL_ (some 51) rfl rfl Try.func45 (by kernel_rfl) rfl #[.slice X1 l1.length C1, .slice E1 l1'.length F1] rfl (by (try simp only [List.map_toArray, List.map_cons, List.map_nil]); first | done | rfl) ?_; refine (laws_caDiffers.calls 300 X1 C1 l1 E1 F1 l1' d1 _ (qR FS.out.2.2.1).2.2 (qR FS.out.2.2.1).2.1 (qR GX_.out.2.1).2.2 (qR GX_.out.2.1).2.1 V6.out).mono ?_; rintro e W20 ⟨rfl, hd⟩; refine ⟨_, rfl, ?_⟩; have hb := hd.below; have n0_ := qM (FS.out.below hb); have n1_ := qM (GX_.out.below hb); have n2_ := qM (below_step HB.out hb); clear FS GX_ HB; have FS := n0_; have GX_ := n1_; have HB := n2_; clear n0_ n1_ n2_ hb; clear hd gx0 gx1 gx2 gx3 gs0 gs1 gs2 gs3; obtain ⟨gx0, gx1, gx2, gx3⟩ := cells4 GX_.out.1; obtain ⟨gs0, gs1, gs2, gs3⟩ := cells4 FS.out.1; (try clear gk0 gk1 gk2 gk3 gk4 gk5); obtain ⟨gk0, gk1, gk2, gk3, gk4, gk5⟩ := cells6 FS.out.2.1) | ((with_reducible refine gate_callee (f := 45) rfl ?_); refine goesL_ (some 56) rfl rfl Try.func45 (by kernel_rfl) rfl #[.slice X2 l2.length C2, .slice E2 l2'.length F2] rfl (by (try simp only [List.map_toArray, List.map_cons, List.map_nil]); first | done | rfl) ?_; refine (laws_caDiffers.calls 300 X2 C2 l2 E2 F2 l2' d2 _ (qR FS.out.2.2.2.1).2.2 (qR FS.out.2.2.2.1).2.1 (qR GX_.out.2.2).2.2 (qR GX_.out.2.2).2.1 V7.out).mono ?_; rintro e W21 ⟨rfl, hd⟩; refine ⟨_, rfl, ?_⟩; have hb := hd.below; have n0_ := qM (FS.out.below hb); have n1_ := qM (GX_.out.below hb); have n2_ := qM (below_step HB.out hb); clear FS GX_ HB; have FS := n0_; have GX_ := n1_; have HB := n2_; clear n0_ n1_ n2_ hb; clear hd gx0 gx1 gx2 gx3 gs0 gs1 gs2 gs3; obtain ⟨gx0, gx1, gx2, gx3⟩ := cells4 GX_.out.1; obtain ⟨gs0, gs1, gs2, gs3⟩ := cells4 FS.out.1; (try clear gk0 gk1 gk2 gk3 gk4 gk5); obtain ⟨gk0, gk1, gk2, gk3, gk4, gk5⟩ := cells6 FS.out.2.1))
  go_ret
  exact ⟨rfl, yb HB⟩
end Go.Proofs.YtcnipdbommmkmaaVgLaw
