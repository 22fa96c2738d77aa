/- hrdOpen and hrdShut: a book as a map by nodes, and back. Conditions: four nodes at most, as many numbers as lives. -/
import Derived.Test.YtaohaebgpbagmaaVHrdMap
import Derived.Test.YtaohaebgpbagmaaVPl
import Derived.Test.YtaohaebgpbagmaaVApart
set_option linter.unusedVariables false
set_option linter.unusedSimpArgs false
namespace Go.Proofs.YtaohaebgpbagmaaHrdOpen
open Go.RowKit Go.Proofs.YtaohaebgpbagmaaW.PrintWords Go.Proofs.YtaohaebgpbagmaaPl Go.Proofs.YtaohaebgpbagmaaHrdMap
abbrev KI : Kd Int := Kd.int .i64
theorem at_i64 {w : World} {A : Option Addr} {n : Nat} {xs : List Int} (h : Kd.C KI w A n xs) (i : Nat) (h1 : i < n) : ∃ ad, A = some ad ∧ w.cell? (ad.add i) = some (.int .i64 (xs.getD i 0)) := by
  obtain ⟨ad, c, e, _, hK, hc⟩ := Kd.C_get h (0 : Int) (i : Int) (by omega) (by omega)
  have hK' : c = [.int .i64 (xs.getD i 0)] := hK
  subst hK'
  have := hc 0 _ rfl
  exact ⟨ad, e, by simpa [Kd.int, Kd.scalar] using this⟩
theorem cells2 {W : World} {g : Nat} {a b : Value} {t : TypeId} (h : W.heap[g]? = some (.cells #[a, b] t (0, 0))) : W.cell? ⟨g, 0, none⟩ = some a ∧ W.cell? ⟨g, 1, none⟩ = some b := ⟨blk_cell h 0, blk_cell h 1⟩
theorem make_run (n : Int) (W : World) : (Instr.makeMap 77 (some (.int .i64 n))).run Try.prog W = .ok (.map (some W.heap.size)) (W.alloc (.map #[] 0)) := by
  have ht : Try.prog.underlying 77 = some (.map 82 80) := Try.underlying77
  simp [Instr.makeMap, run_underlying ht, asInt, asIntOf, Result.andThen]

def OR (w : World) (s1 s2 : Value) (L : List (Int × Int)) (k : Nat) (wr : World) : Prop := Below w.heap.size w wr ∧ wr.heap[w.heap.size]? = some (.cells #[s1, s2] 37 (0, 0)) ∧ DM wr (w.heap.size + 1) (L.take k)

set_option maxRecDepth 100000 in
set_option maxHeartbeats 1000000 in
theorem open_any (A1 : Option Addr) (c1 : Nat) (bs : List Int) (A2 : Option Addr) (c2 : Nat) (ss : List Int) (w : World) (hr1 : Kd.C KI w A1 bs.length bs) (hr2 : Kd.C KI w A2 bs.length ss) (h4 : bs.length ≤ 4) :
    Calls Try.prog 55 #[.agg #[.slice A1 bs.length c1, .slice A2 bs.length c2]] w fun e w' => e = .returned (.map (some (w.heap.size + 1))) ∧ DM w' (w.heap.size + 1) (bs.zip ss) ∧ Below w.heap.size w w' := by
  have hss : ss.length = bs.length := hr2.1
  have HZ := Aside0.mk (show (bs.zip ss).length = bs.length by simp [hss])
  have H1 := Aside0.mk hr1
  have H2 := Aside0.mk hr2
  have HS := Aside0.mk hss
  obtain ⟨n, hn⟩ : ∃ n, n = bs.length := ⟨_, rfl⟩
  rw [← hn] at H1 H2 HZ HS h4 ⊢
  have HN := Aside0.mk hn
  have hmk := make_run (n : Int) (w.alloc (.cells #[.slice A1 n c1, .slice A2 n c2] 37))
  rw [show (w.alloc (.cells #[.slice A1 n c1, .slice A2 n c2] 37)).heap.size = w.heap.size + 1 by simp] at hmk
  have HM := Aside0.mk (DM.made (w.alloc (.cells #[.slice A1 n c1, .slice A2 n c2] 37)))
  clear hr1 hr2 hss hn
  go_enter Try.func55, Try.ntmps55
  go_wp2
  go_loopw [13] (fun v13 wr => ∃ k : Nat, k ≤ n ∧ v13 = .int .i64 k ∧ Aside0 (OR w (.slice A1 n c1) (.slice A2 n c2) (bs.zip ss) k wr)) (fun v13 _ => n - (intOf v13).toNat)
  case atStart =>
    refine ⟨0, Nat.zero_le _, rfl, ⟨((Below.refl _ _).alloc (Nat.le_refl _) _).alloc (by simp) _, blk_alloc (heap_alloc_new w (.cells #[.slice A1 n c1, .slice A2 n c2] 37 (0, 0))) _, ?_⟩⟩
    have h := HM.out
    rw [show (w.alloc (.cells #[.slice A1 n c1, .slice A2 n c2] 37)).heap.size = w.heap.size + 1 by simp] at h
    exact h
  case round =>
    obtain ⟨k, hk, rfl, HR⟩ := hrel
    by_cases hlt : k < n
    · obtain ⟨hB, hX, hD⟩ := HR.out
      obtain ⟨ad1, e1, hx⟩ := at_i64 (Kd.C_below H1.out hB) k hlt
      obtain ⟨ad2, e2, hy⟩ := at_i64 (Kd.C_below H2.out hB) k hlt
      subst e1
      subst e2
      obtain ⟨x, hxx⟩ : ∃ x, x = bs.getD k 0 := ⟨_, rfl⟩
      obtain ⟨y, hyy⟩ : ∃ y, y = ss.getD k 0 := ⟨_, rfl⟩
      have htl : ((bs.zip ss).take k).length = k := by rw [List.length_take, HZ.out]; omega
      have hput := DM.put_new hD (by rw [htl]; omega) (x, y)
      rw [htl] at hput
      obtain ⟨w', hrun, hD', hg⟩ := hput
      have hsnoc : (bs.zip ss).take k ++ [(x, y)] = (bs.zip ss).take (k + 1) := by
        rw [List.take_succ_eq_append_getElem (by rw [HZ.out]; exact hlt), List.getElem_zip, hxx, hyy, List.getD_eq_getElem?_getD, List.getD_eq_getElem?_getD, List.getElem?_eq_getElem (by rw [← HN.out]; exact hlt), List.getElem?_eq_getElem (by rw [HS.out]; exact hlt)]
        rfl
      rw [hsnoc] at hD'
      rw [← hxx] at hx
      rw [← hyy] at hy
      simp only [KEY, VAL] at hrun
      obtain ⟨p0, p1⟩ := cells2 hX
      have HB := Aside0.mk (hB.grown hg hB.size (fun q hq => by injection hq with hq; omega))
      have HX := Aside0.mk (blk_grown hX hg (by simp))
      have HD := Aside0.mk hD'
      clear hxx hyy htl hsnoc hB hX hD hD' hg
      go_wp2
      go_roundw
      case rel => exact ⟨k + 1, by omega, by go_num, ⟨HB.out, HX.out, HD.out⟩⟩
      case measure => simp [intOf]; omega
    · obtain rfl : k = n := by omega
      have h := HR.out
      have HF := Aside0.mk (show DM wr (w.heap.size + 1) (bs.zip ss) by have := h.2.2; rwa [List.take_of_length_le (Nat.le_of_eq HZ.out)] at this)
      go_wp2
      go_ret
      exact ⟨rfl, HF.out, HR.out.1⟩

theorem noBook : ∀ q, q ∈ 3 :: KI.E → q ≠ 37 := by
  intro q hq
  simp [Kd.int, Kd.scalar] at hq
  omega
theorem far_set {W : World} {g : Nat} {o : Obj} {p : Addr} {u : Value} (h : W.heap[g]? = some o) (hne : g ≠ p.block) : (W.setCell p u).heap[g]? = some o := (Below.heap_setCell W p u g hne).trans h
theorem after2 {W w1 : World} {base : Nat} {u v v1 : Value} {ys : List Int} (h : Kd.R KI 3 W base (fun k => some k ≠ v.ownBlock) u ys) (hg : W.grownBy w1 v.ownBlock) (hat : v1.ownBlock = v.ownBlock ∨ ∃ b, v1.ownBlock = some b ∧ W.heap.size ≤ b) : Kd.R KI 3 w1 base (fun k => some k ≠ v1.ownBlock) u ys :=
  Kd.R_mono (Kd.R_after (ok := fun _ => True) (Kd.R_mono h (fun k hk => ⟨trivial, hk⟩)) hg hat) (fun k hk => hk.2)
theorem info3 : (Try.prog.info? 3).map (fun i => (i.zero, i.size, i.bytes)) = some (some (.int .i64 0), 1, 8) := by kernel_rfl
def SR (w : World) (m : Nat) (L : List (Int × Int)) (k : Nat) (wr : World) : Prop := ∃ v1 v2, Below w.heap.size w wr ∧ wr.heap[w.heap.size]? = some (.cells #[.slice none 0 0, .slice none 0 0] 37 (0, 0)) ∧ wr.heap[w.heap.size + 1]? = some (.cells #[v1, v2] 37 (0, 0)) ∧ DM wr m L ∧ Kd.R KI 3 wr w.heap.size (fun q => some q ≠ v2.ownBlock) v1 ((L.take k).map Prod.fst) ∧ Kd.R KI 3 wr w.heap.size (fun q => some q ≠ v1.ownBlock) v2 ((L.take k).map Prod.snd)

set_option maxRecDepth 100000 in
set_option maxHeartbeats 1000000 in
theorem shut_any (m : Nat) (L : List (Int × Int)) (w : World) (hD : DM w m L) (h4 : L.length ≤ 4) :
    Calls Try.prog 56 #[.map (some m)] w fun e w' => ∃ v1 v2, e = .returned (.agg #[v1, v2]) ∧ Kd.R KI 3 w' w.heap.size (fun q => some q ≠ v2.ownBlock) v1 (L.map Prod.fst) ∧ Kd.R KI 3 w' w.heap.size (fun q => some q ≠ v1.ownBlock) v2 (L.map Prod.snd) ∧ Below w.heap.size w w' := by
  have hm : m < w.heap.size := by
    obtain ⟨es, clock, h1, _⟩ := hD
    exact (Array.getElem?_eq_some_iff.1 h1).1
  have HD := Aside0.mk hD
  have HM := Aside0.mk hm
  obtain ⟨n, hn⟩ : ∃ n, n = L.length := ⟨_, rfl⟩
  have hlen := DM.len (DM.below hD (below_alloc (below_alloc (Below.refl w.heap.size w) (.cells #[.slice none 0 0, .slice none 0 0] 37)) (.cells #[.slice none 0 0, .slice none 0 0] 37))) h4 3
  rw [← hn] at hlen h4
  have HN := Aside0.mk hn
  clear hD hm hn
  go_enter Try.func56, Try.ntmps56
  go_wp2
  go_loopw [8] (fun v8 wr => ∃ k : Nat, k ≤ n ∧ v8 = .int .i64 k ∧ Aside0 (SR w m L k wr)) (fun v8 _ => n - (intOf v8).toNat)
  case atStart =>
    have h1 := heap_alloc_new w (.cells #[.slice none 0 0, .slice none 0 0] 37 (0, 0))
    have h2 := heap_alloc_new (w.alloc (.cells #[.slice none 0 0, .slice none 0 0] 37)) (.cells #[.slice none 0 0, .slice none 0 0] 37 (0, 0))
    rw [show (w.alloc (.cells #[.slice none 0 0, .slice none 0 0] 37)).heap.size = w.heap.size + 1 by simp] at h2
    exact ⟨0, Nat.zero_le _, rfl, ⟨_, _, below_alloc (below_alloc (Below.refl w.heap.size w) _) _, blk_alloc h1 _, h2, DM.below HD.out (below_alloc (below_alloc (Below.refl w.heap.size w) _) _), Kd.R_nil _ _ _ _ _, Kd.R_nil _ _ _ _ _⟩⟩
  case round =>
    obtain ⟨k, hk, rfl, HR⟩ := hrel
    by_cases hlt : k < n
    · obtain ⟨v1, v2, hB, hX, hY, hD, hr1, hr2⟩ := HR.out
      obtain ⟨x, hx⟩ : ∃ x, x = (L[k]'(by rw [← HN.out]; exact hlt)).1 := ⟨_, rfl⟩
      obtain ⟨y, hy⟩ : ∃ y, y = (L[k]'(by rw [← HN.out]; exact hlt)).2 := ⟨_, rfl⟩
      have hrun := DM.look hD (by rw [← HN.out]; omega) k (by rw [← HN.out]; exact hlt)
      rw [show VAL (L[k]'(by rw [← HN.out]; exact hlt)) = .agg #[.int .i64 x, .int .i64 y] by rw [hx, hy]; rfl] at hrun
      simp only [KEY] at hrun
      have hs1 : (L.take k).map Prod.fst ++ [x] = (L.take (k + 1)).map Prod.fst := by
        rw [List.take_succ_eq_append_getElem (by rw [← HN.out]; exact hlt), List.map_append, hx]
        rfl
      have hs2 : (L.take k).map Prod.snd ++ [y] = (L.take (k + 1)).map Prod.snd := by
        rw [List.take_succ_eq_append_getElem (by rw [← HN.out]; exact hlt), List.map_append, hy]
        rfl
      have hlk : ((L.take k).map Prod.fst).length ≤ 4 ∧ ((L.take k).map Prod.snd).length ≤ 4 := by simp only [List.length_map, List.length_take]; omega
      obtain ⟨l1, hl1'⟩ : ∃ l, l = (L.take k).map Prod.fst := ⟨_, rfl⟩
      obtain ⟨l2, hl2'⟩ : ∃ l, l = (L.take k).map Prod.snd := ⟨_, rfl⟩
      rw [← hl1'] at hs1 hr1 hlk
      rw [← hl2'] at hs2 hr2 hlk
      clear hl1' hl2'
      have HS1 := Aside0.mk hs1
      have HS2 := Aside0.mk hs2
      obtain ⟨p0, p1⟩ := cells2 hY
      have pf0 := blk_frozen hY 0
      have pf1 := blk_frozen hY 1
      have hl1 : w.heap.size + 1 < wr.heap.size := blk_lt hY
      have B0 := Aside0.mk hB
      have X0 := Aside0.mk hX
      have Y0 := Aside0.mk hY
      have D0 := Aside0.mk hD
      have R1 := Aside0.mk hr1
      have R2 := Aside0.mk hr2
      have LK := Aside0.mk hlk
      clear hlk hs1 hs2 hx hy hB hX hY hD hr1 hr2
      go_wp2_with (first | ((with_reducible refine gate_builtin (b := .append) (xs := #[.tmp 16, .tmp 19]) rfl ?_); at_builtin; have hb1 := below_alloc (Below.refl wr.heap.size wr) (.cells #[.int .i64 x, .int .i64 y] 80); have B1 := Aside0.mk (B0.out.trans (hb1.mono B0.out.size)); have X1 := Aside0.mk (blk_below X0.out hb1); have Y1 := Aside0.mk (blk_below Y0.out hb1); have D1 := Aside0.mk (DM.below D0.out hb1); have R11 := Aside0.mk (Kd.R_below R1.out hb1); have R21 := Aside0.mk (Kd.R_below R2.out hb1); have XE := Aside0.mk (heap_alloc_new wr (.cells #[.int .i64 x, .int .i64 y] 80 (0, 0))); clear hb1; refine Kd.R_append KI (w0 := w) w.heap.size rfl (.tmp 16) (.tmp 19) 35 3 (.int .i64 0) 8 rfl Try.underlying35 info3 rfl (by decide) (by omega) v1 l1 x [.int .i64 x] (fun q => some q ≠ v2.ownBlock) (fun _ => False) ?aV ?aX ?aP ?aK ?aF ?aO ?aB ?aS ?aL ?_; (case aV => first | rfl | (go_simp; done) | (go_simp; rfl)); (case aX => first | rfl | (go_simp; done) | (go_simp; rfl)); (case aP => exact rfl); (case aK => exact fun _ h => h.elim); (case aF => exact (fun q hq he => absurd (Kd.R_lt R21.out q he.symm) (by omega))); (case aO => exact R11.out); (case aB => exact B1.out); (case aS => exact B1.out.size); (case aL => have := LK.out; omega); intro v5 w5 hR hB hg hat; obtain ⟨A5, c5, e5⟩ := Kd.R_slice hR; rw [List.length_append, List.length_singleton] at e5; subst e5; have ne37 := Kd.R_ne R11.out X1.out (by decide); have ne38 := Kd.R_ne R11.out Y1.out (by decide); have neE := Kd.R_ne R11.out XE.out (by decide); have neM : some m ≠ v1.ownBlock := fun he => absurd (Kd.R_base R11.out m he.symm) (by have := HM.out; omega); have B5 := Aside0.mk hB; have X5 := Aside0.mk (blk_grown X1.out hg ne37); have Y5 := Aside0.mk (blk_grown Y1.out hg ne38); have XE5 := Aside0.mk (blk_grown XE.out hg neE); have D5 := Aside0.mk (DM.kept D1.out hg neM); have R15 := Aside0.mk hR; have R25 := Aside0.mk (after2 R21.out hg hat); have B56 := Aside0.mk (B5.out.setCell (p := ⟨w.heap.size + 1, 0, none⟩) (by simp) (.slice A5 (l1.length + 1) c5)); have X6 := Aside0.mk (far_set X5.out (by simp) : (w5.setCell ⟨w.heap.size + 1, 0, none⟩ (.slice A5 (l1.length + 1) c5)).heap[w.heap.size]? = _); have Y6 := Aside0.mk (blk_set Y5.out 0 (.slice A5 (l1.length + 1) c5)); have XE6 := Aside0.mk (far_set XE5.out (by simp; omega) : (w5.setCell ⟨w.heap.size + 1, 0, none⟩ (.slice A5 (l1.length + 1) c5)).heap[wr.heap.size]? = _); have D6 := Aside0.mk (DM.set D5.out (p := ⟨w.heap.size + 1, 0, none⟩) (by have := HM.out; simp; omega) (.slice A5 (l1.length + 1) c5)); have R16 := Aside0.mk (Kd.R_set R15.out Y5.out noBook 0 (.slice A5 (l1.length + 1) c5)); have R26 := Aside0.mk (Kd.R_set R25.out Y5.out noBook 0 (.slice A5 (l1.length + 1) c5)); clear p0 p1 pf0 pf1; obtain ⟨p0, p1⟩ := cells2 Y5.out; have pf0 : w5.frozen? ⟨w.heap.size + 1, 0, none⟩ = false := blk_frozen Y5.out 0; have pf1 : w5.frozen? ⟨w.heap.size + 1, 1, none⟩ = false := blk_frozen Y5.out 1; obtain ⟨q0, q1⟩ := cells2 XE5.out; clear hR hB hg hat ne37 ne38 neE neM) | ((with_reducible refine gate_builtin (b := .append) (xs := #[.tmp 23, .tmp 26]) rfl ?_); at_builtin; refine Kd.R_append KI (w0 := w) w.heap.size rfl (.tmp 23) (.tmp 26) 35 3 (.int .i64 0) 8 rfl Try.underlying35 info3 rfl (by decide) (by omega) v2 l2 y [.int .i64 y] (fun q => some q ≠ (.slice A5 (l1.length + 1) c5 : Value).ownBlock) (fun _ => False) ?aV ?aX ?aP ?aK ?aF ?aO ?aB ?aS ?aL ?_; (case aV => first | rfl | (go_simp; done) | (go_simp; rfl)); (case aX => first | rfl | (go_simp; done) | (go_simp; rfl)); (case aP => exact rfl); (case aK => exact fun _ h => h.elim); (case aF => exact (fun q hq he => absurd (Kd.R_lt R16.out q he.symm) (by omega))); (case aO => exact R26.out); (case aB => exact B56.out); (case aS => exact B56.out.size); (case aL => have := LK.out; omega); intro v6 w7 hR hB hg hat; obtain ⟨A6, c6, e6⟩ := Kd.R_slice hR; rw [List.length_append, List.length_singleton] at e6; subst e6; have ne37 := Kd.R_ne R26.out X6.out (by decide); have ne38 := Kd.R_ne R26.out Y6.out (by decide); have neM : some m ≠ v2.ownBlock := fun he => absurd (Kd.R_base R26.out m he.symm) (by have := HM.out; omega); have B7 := Aside0.mk hB; have X7 := Aside0.mk (blk_grown X6.out hg ne37); have Y7 := Aside0.mk (blk_grown Y6.out hg ne38); have D7 := Aside0.mk (DM.kept D6.out hg neM); have R27 := Aside0.mk hR; have R17 := Aside0.mk (after2 R16.out hg hat); have B8 := Aside0.mk (B7.out.setCell (p := ⟨w.heap.size + 1, 1, none⟩) (by simp) (.slice A6 (l2.length + 1) c6)); have X8 := Aside0.mk (far_set X7.out (by simp) : (w7.setCell ⟨w.heap.size + 1, 1, none⟩ (.slice A6 (l2.length + 1) c6)).heap[w.heap.size]? = _); have Y8 := Aside0.mk (blk_set Y7.out 1 (.slice A6 (l2.length + 1) c6)); have D8 := Aside0.mk (DM.set D7.out (p := ⟨w.heap.size + 1, 1, none⟩) (by have := HM.out; simp; omega) (.slice A6 (l2.length + 1) c6)); have R18 := Aside0.mk (Kd.R_set R17.out Y7.out noBook 1 (.slice A6 (l2.length + 1) c6)); have R28 := Aside0.mk (Kd.R_set R27.out Y7.out noBook 1 (.slice A6 (l2.length + 1) c6)); clear p0 p1 pf0 pf1; obtain ⟨p0, p1⟩ := cells2 Y7.out; have pf0 : w7.frozen? ⟨w.heap.size + 1, 0, none⟩ = false := blk_frozen Y7.out 0; have pf1 : w7.frozen? ⟨w.heap.size + 1, 1, none⟩ = false := blk_frozen Y7.out 1; clear hR hB hg hat ne37 ne38 neM))
      go_roundw
      case rel =>
        refine ⟨k + 1, by omega, by go_num, ⟨_, _, B8.out, X8.out, Y8.out, D8.out, ?_, ?_⟩⟩
        · rw [← HS1.out]; exact R18.out
        · rw [← HS2.out]; exact R28.out
      case measure => simp [intOf]; omega
    · obtain rfl : k = n := by omega
      obtain ⟨v1, v2, hB, hX, hY, hD, hr1, hr2⟩ := HR.out
      rw [List.take_of_length_le (Nat.le_of_eq HN.out.symm)] at hr1 hr2
      obtain ⟨l1, hl1⟩ : ∃ l, l = L.map Prod.fst := ⟨_, rfl⟩
      obtain ⟨l2, hl2⟩ : ∃ l, l = L.map Prod.snd := ⟨_, rfl⟩
      rw [← hl1] at hr1
      rw [← hl2] at hr2
      have HL1 := Aside0.mk hl1
      have HL2 := Aside0.mk hl2
      obtain ⟨A1, c1, rfl⟩ := Kd.R_slice hr1
      obtain ⟨A2, c2, rfl⟩ := Kd.R_slice hr2
      obtain ⟨p0, p1⟩ := cells2 hY
      obtain ⟨g0, g1⟩ := cells2 hX
      have pf0 := blk_frozen hX 0
      have pf1 := blk_frozen hX 1
      have B0 := Aside0.mk hB
      have X0 := Aside0.mk hX
      have R1 := Aside0.mk hr1
      have R2 := Aside0.mk hr2
      clear hB hX hY hD hr1 hr2 hl1 hl2
      go_wp2
      refine bodyPost_ret (results_cell_row rfl _ _ w.heap.size 37 #[.slice A1 l1.length c1, .slice A2 l2.length c2] (0, 0) _ rfl (blk_set (blk_set X0.out 0 _) 1 _) Try.underlying37 rfl (by kernel_rfl)) rfl ?_
      exact ⟨_, _, rfl, by rw [← HL1.out]; exact Kd.R_set (Kd.R_set R1.out X0.out noBook 0 _) (blk_set X0.out 0 _) noBook 1 _, by rw [← HL2.out]; exact Kd.R_set (Kd.R_set R2.out X0.out noBook 0 _) (blk_set X0.out 0 _) noBook 1 _, (B0.out.setCell (p := ⟨w.heap.size, 0, none⟩) (Nat.le_refl _) _).setCell (p := ⟨w.heap.size, 1, none⟩) (Nat.le_refl _) _⟩
end Go.Proofs.YtaohaebgpbagmaaHrdOpen
