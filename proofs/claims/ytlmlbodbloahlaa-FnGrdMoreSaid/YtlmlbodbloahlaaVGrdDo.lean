/- What GrdDo answers: what the first rule that fits lets through of a message. Conditions: the rules and the message can be read. -/
import Derived.Test.YtlmlbodbloahlaaVGrdIter
import Derived.Scope
import Derived.WalkMore
set_option linter.unusedVariables false
set_option linter.unusedSimpArgs false
namespace Go.Proofs.YtlmlbodbloahlaaGrdDo
open Go.RowKit Go.Shelf Go.Proofs.YtlmlbodbloahlaaW.PrintWords Go.Proofs.Ytlmlbodbloahlaa.PGrdBase Go.Proofs.YtlmlbodbloahlaaPl Go.Proofs.YtlmlbodbloahlaaGrdCut Go.Proofs.YtlmlbodbloahlaaGrdIter
attribute [local go_sem] Oper.semAt_some

theorem msg_any (A : Option Addr) (n c : Nat) (w : World) (hn : n ≤ 9223372036854775807) : Calls Try.prog 35 #[.slice A n c] w fun e w' => e = .returned (.bool (decide ((n : Int) ≤ 8))) ∧ w = w' := by
  go_enter Try.func35, Try.ntmps35
  go_wp2
  go_ret
  exact ⟨rfl, rfl⟩
theorem ok_any (R : List S46) (A : Option Addr) (c : Nat) (w : World) (hA : Kd.C k46 w A R.length R) (hc : R.length ≤ c) :
    Calls Try.prog 30 #[.slice A R.length c] w fun e w' => e = .returned (.bool (rulesB R)) ∧ Below w.heap.size w w' :=
  impl_GrdOk.calls 6 A c R (rulesB R) w hA hc (implRules_eq R 6 (by omega))
theorem fitting_any (A0 A1 : Option Addr) (n0 c0 n1 c1 : Nat) (w : World) :
    Calls Try.prog 44 #[.slice A0 n0 c0, .slice A1 n1 c1] w fun e w' => e = .returned (.func (.func 51) #[] #[.pointer (some ⟨w.heap.size, 0, none⟩), .pointer (some ⟨w.heap.size + 1, 0, none⟩)]) ∧ w' = (w.alloc (.cells #[.slice A0 n0 c0] 36)).alloc (.cells #[.slice A1 n1 c1] 22) := by
  have hmf : ∀ (fn : Fn) (first cap : Array Value) (w : World), (Instr.makeFunc fn first cap).run Try.prog w = .ok (.func fn first cap) w := fun _ _ _ _ => rfl
  go_enter Try.func44, Try.ntmps44
  go_wp2
  go_ret
  exact ⟨rfl, rfl⟩
def doZ (R : List S46) (m : List Int) : List Int × Bool :=
  if rulesB R = true ∧ m.length ≤ 8 then (match R.find? (fitO m) with | none => ([], false) | some r => (cutZ r.f5 r.f6.toNat m, true)) else ([], false)
theorem fit_rule {m : List Int} {x : S46} (h : fitO m x = true) : (-1 ≤ x.f5 ∧ x.f5 ≤ 7) ∧ (0 ≤ x.f6 ∧ x.f6 ≤ 8) := by
  unfold fitO fitsB at h
  rw [Bool.and_eq_true] at h
  have := of_decide_eq_true h.1
  exact ⟨this.2.2.2.2.2.1, this.2.2.2.2.2.2⟩

set_option maxRecDepth 100000 in
set_option maxHeartbeats 4000000 in
theorem do_bad (R : List S46) (m : List Int) (A0 A1 : Option Addr) (c0 c1 : Nat) (w : World) (hA : Kd.C k46 w A0 R.length R) (hc : R.length ≤ c0) (hM : Kd.C (Kd.int .u8) w A1 m.length m) (hbad : rulesB R = false ∨ (rulesB R = true ∧ 8 < m.length)) :
    Calls Try.prog 24 #[.slice A0 R.length c0, .slice A1 m.length c1] w fun e w' => e = .returned (.tuple #[.slice none 0 0, .bool false]) ∧ Below w.heap.size w w' := by
  have HOK := Aside0.mk (ok_any R A0 c0 (w.alloc (.cells #[.slice A1 m.length c1] 22)) (Kd.C_alloc hA _) hc)
  have HMSG := Aside0.mk (fun W : World => msg_any A1 m.length c1 W hM.2.1)
  have hS : (w.alloc (.cells #[.slice A1 m.length c1] 22)).heap.size = w.heap.size + 1 := by simp
  have HS := Aside0.mk hS
  have h0 : (w.alloc (.cells #[.slice A1 m.length c1] 22)).cell? ⟨w.heap.size, 0, none⟩ = some (.slice A1 m.length c1) := by simp
  have H0 := Aside0.mk h0
  clear hS h0
  rcases hbad with hb | ⟨hb, hm⟩
  · rw [hb] at HOK
    clear hA hM hb hc
    go_enter Try.func24, Try.ntmps24
    go_wp2
    go_step3
    go_wp2_with (first | (go_at_call 30; refine HOK.out.mono ?_; rintro e w' ⟨rfl, hb⟩; have HB := Aside0.mk hb; have hcm := (hb.cell (p := ⟨w.heap.size, 0, none⟩) (by show w.heap.size < _; rw [HS.out]; omega)).trans H0.out; clear hb))
    rw [Exit.noGoto_ret]
    go_ret2
    exact ⟨rfl, ((Below.refl _ _).alloc (Nat.le_refl _) _).trans (HB.out.mono (by rw [HS.out]; omega))⟩
  · rw [hb] at HOK
    have hd : decide ((m.length : Int) ≤ 8) = false := decide_eq_false (by omega)
    rw [hd] at HMSG
    clear hA hM hb hc hm hd
    go_enter Try.func24, Try.ntmps24
    go_wp2
    go_step3
    go_wp2_with (first | (go_at_call 30; refine HOK.out.mono ?_; rintro e w' ⟨rfl, hb⟩; have HB := Aside0.mk hb; have hcm := (hb.cell (p := ⟨w.heap.size, 0, none⟩) (by show w.heap.size < _; rw [HS.out]; omega)).trans H0.out; clear hb) | (go_at_call 35; refine (HMSG.out _).mono ?_; rintro e w' ⟨rfl, rfl⟩))
    rw [Exit.noGoto_ret]
    go_ret2
    exact ⟨rfl, ((Below.refl _ _).alloc (Nat.le_refl _) _).trans (HB.out.mono (by rw [HS.out]; omega))⟩

/-- A block of cells abides the turns of what is no cells. -/
theorem cells_own {β : Type} (B : Nat) (cs : β → Array Value) (t : TypeId) : Own (fun (s : β) (W : World) => W.heap[B]? = some (.cells (cs s) t (0, 0))) := fun s X Y row hs hg hrow =>
  (hg.block B (blk_lt hs) (fun e' => by obtain ⟨o, ho, hc⟩ := hrow B e'.symm; rw [show X.heap[B]? = _ from hs] at ho; cases ho; cases hc)).trans hs
theorem row_own {base : Nat} {v : Value} {l : List Int} {X Y : World} {row : Option Nat} (hs : Kd.R (Kd.int .u8) 5 X base (fun _ => True) v l) (hg : X.grownBy Y row) (hrow : ∀ r, row = some r → ∃ o : Obj, X.heap[r]? = some o ∧ o.isCells = false) : Kd.R (Kd.int .u8) 5 Y base (fun _ => True) v l :=
  Kd.R_grown2 hs rfl hg (fun k hk e => by
    obtain ⟨o, ho, hc⟩ := hrow k hk
    obtain ⟨cells, hcl⟩ := Kd.R_typed hs k e.symm
    rw [hcl] at ho
    cases ho
    cases hc)

set_option maxRecDepth 100000 in
set_option maxHeartbeats 4000000 in
theorem do_good (R : List S46) (m : List Int) (A0 A1 : Option Addr) (c0 c1 : Nat) (w : World) (hA : Kd.C k46 w A0 R.length R) (hc : R.length ≤ c0) (hM : Kd.C (Kd.int .u8) w A1 m.length m) (hc1 : m.length ≤ c1) (hm : ∀ y ∈ m, (Lit.int .u8 y).wf = true) (hRl : R.length ≤ 4) (hok : rulesB R = true) (h8 : m.length ≤ 8) :
    Calls Try.prog 24 #[.slice A0 R.length c0, .slice A1 m.length c1] w fun e w' => ∃ v b, e = .returned (.tuple #[v, .bool b]) ∧ Kd.R (Kd.int .u8) 5 w' w.heap.size (fun _ => True) v (match R.find? (fitO m) with | none => [] | some r => cutZ r.f5 r.f6.toNat m) ∧ b = (R.find? (fitO m)).isSome ∧ Below w.heap.size w w' := by
  have HOK := Aside0.mk (ok_any R A0 c0 (w.alloc (.cells #[.slice A1 m.length c1] 22)) (Kd.C_alloc hA _) hc)
  have HMSG := Aside0.mk (fun W : World => msg_any A1 m.length c1 W hM.2.1)
  have hS : (w.alloc (.cells #[.slice A1 m.length c1] 22)).heap.size = w.heap.size + 1 := by simp
  have HS := Aside0.mk hS
  have h0 : (w.alloc (.cells #[.slice A1 m.length c1] 22)).heap[w.heap.size]? = some (.cells #[.slice A1 m.length c1] 22 (0, 0)) := heap_alloc_new w _
  have H0 := Aside0.mk h0
  rw [hok] at HOK
  have hd : decide ((m.length : Int) ≤ 8) = true := decide_eq_true (by omega)
  rw [hd] at HMSG
  have HA := Aside0.mk hA
  have HM := Aside0.mk hM
  have HC1 := Aside0.mk hc1
  have HMM := Aside0.mk hm
  have HRL := Aside0.mk hRl
  have H8 := Aside0.mk h8
  clear hA hM hc hc1 hm hRl hok h8 hS h0 hd
  refine (callsIn_wide (n := 6)).1 ?_
  refine callsIn_of_wp_marks Try.func24 rfl trivial ?_ rfl
  simp only [Try.ntmps24, List.size_toArray, List.length_cons, List.length_nil, Nat.reduceAdd, Nat.reduceSub, Array.replicate_succ, Array.replicate_zero, List.push_toArray, List.append_toArray, List.nil_append, List.cons_append]
  refine wpIn_wide.2 ?_
  go_wp2
  go_step3
  go_wp2_with (first | (go_at_call 30; refine HOK.out.mono ?_; rintro e w1 ⟨rfl, hb⟩; have HB := Aside0.mk hb; have hbx := blk_below H0.out hb; have hcm := blk_cell hbx 0; have HBX := Aside0.mk hbx; clear hb hbx) | (go_at_call 35; refine (HMSG.out _).mono ?_; rintro e w' ⟨rfl, rfl⟩) | (go_at_call 44; refine (fitting_any _ _ _ _ _ _ _).mono ?_; rintro e w2 ⟨rfl, rfl⟩))
  refine wp_label ?_
  have hcm2 : ((w1.alloc (.cells #[.slice none 0 0] 22)).alloc (.cells #[.bool false] 4)).cell? ⟨w.heap.size, 0, none⟩ = some (.slice A1 m.length c1) := blk_cell (blk_alloc (blk_alloc HBX.out _) _) 0
  go_wp2_with (first | (go_at_call 44; refine (fitting_any _ _ _ _ _ _ _).mono ?_; rintro e w2 ⟨rfl, rfl⟩))
  have hlt1 : w.heap.size < w1.heap.size := blk_lt HBX.out
  have b6 : Boxed ((((w1.alloc (.cells #[.slice none 0 0] 22)).alloc (.cells #[.bool false] 4)).alloc (.cells #[.slice A0 R.length c0] 36)).alloc (.cells #[.slice A1 m.length c1] 22)) w1.heap.size 22 (.slice none 0 0) := (((Boxed.new w1 22 (.slice none 0 0)).alloc _).alloc _).alloc _
  have b7 : Boxed ((((w1.alloc (.cells #[.slice none 0 0] 22)).alloc (.cells #[.bool false] 4)).alloc (.cells #[.slice A0 R.length c0] 36)).alloc (.cells #[.slice A1 m.length c1] 22)) (w1.heap.size + 1) 4 (.bool false) := by
    have h := ((Boxed.new (w1.alloc (.cells #[.slice none 0 0] 22)) 4 (.bool false)).alloc (.cells #[.slice A0 R.length c0] 36)).alloc (.cells #[.slice A1 m.length c1] 22)
    rw [World.size_alloc] at h
    exact h
  have bl : Boxed ((((w1.alloc (.cells #[.slice none 0 0] 22)).alloc (.cells #[.bool false] 4)).alloc (.cells #[.slice A0 R.length c0] 36)).alloc (.cells #[.slice A1 m.length c1] 22)) (w1.heap.size + 1 + 1) 36 (.slice A0 R.length c0) := by
    have h := (Boxed.new ((w1.alloc (.cells #[.slice none 0 0] 22)).alloc (.cells #[.bool false] 4)) 36 (.slice A0 R.length c0)).alloc (.cells #[.slice A1 m.length c1] 22)
    rw [World.size_alloc, World.size_alloc] at h
    exact h
  have bm : Boxed ((((w1.alloc (.cells #[.slice none 0 0] 22)).alloc (.cells #[.bool false] 4)).alloc (.cells #[.slice A0 R.length c0] 36)).alloc (.cells #[.slice A1 m.length c1] 22)) (w1.heap.size + 1 + 1 + 1) 22 (.slice A1 m.length c1) := by
    have h := Boxed.new (((w1.alloc (.cells #[.slice none 0 0] 22)).alloc (.cells #[.bool false] 4)).alloc (.cells #[.slice A0 R.length c0] 36)) 22 (.slice A1 m.length c1)
    rw [World.size_alloc, World.size_alloc, World.size_alloc] at h
    exact h
  have b3 : Boxed ((((w1.alloc (.cells #[.slice none 0 0] 22)).alloc (.cells #[.bool false] 4)).alloc (.cells #[.slice A0 R.length c0] 36)).alloc (.cells #[.slice A1 m.length c1] 22)) w.heap.size 22 (.slice A1 m.length c1) := Boxed.alloc (Boxed.alloc (Boxed.alloc (Boxed.alloc HBX.out _) _) _) _
  have hB01 : Below w.heap.size w w1 := ((Below.refl _ _).alloc (Nat.le_refl _) _).trans (HB.out.mono (by rw [HS.out]; omega))
  have hB0 : Below w.heap.size w ((((w1.alloc (.cells #[.slice none 0 0] 22)).alloc (.cells #[.bool false] 4)).alloc (.cells #[.slice A0 R.length c0] 36)).alloc (.cells #[.slice A1 m.length c1] 22)) := (((hB01.alloc hB01.size _).alloc (by simp; omega) _).alloc (by simp; omega) _).alloc (by simp; omega) _
  have hsz : ((((w1.alloc (.cells #[.slice none 0 0] 22)).alloc (.cells #[.bool false] 4)).alloc (.cells #[.slice A0 R.length c0] 36)).alloc (.cells #[.slice A1 m.length c1] 22)).heap.size = w1.heap.size + 4 := by simp
  obtain ⟨WL, hWL⟩ : ∃ WL, ((((w1.alloc (.cells #[.slice none 0 0] 22)).alloc (.cells #[.bool false] 4)).alloc (.cells #[.slice A0 R.length c0] 36)).alloc (.cells #[.slice A1 m.length c1] 22)) = WL := ⟨_, rfl⟩
  rw [hWL] at b6 b7 bl bm b3 hB0 hsz ⊢
  clear hWL hcm2 hcm
  have hRL := Kd.C_below HA.out hB0
  have hML := Kd.C_below HM.out hB0
  refine (wpIn_wide (n := 6)).1 ?_
  refine wpIn_rangeFunc_ownH (α := Fits m) rfl (by omega) (gf := 51) (lb := #[.pointer (some ⟨w1.heap.size + 1 + 1, 0, none⟩), .pointer (some ⟨w1.heap.size + 1 + 1 + 1, 0, none⟩)]) rfl trivial (enters_of Try.func51 (by kernel_rfl) rfl)
    (encs := fun x : Fits m => #[ruleV x.1]) (Kp := Below WL.heap.size) (S := fun ys => ys = alls m R) (Sp := fun pre => pre <+: alls m R) (N := (alls m R).length) (w0 := WL)
    (fun l J Jx W hW hJ hJx hY h0 => fitting1_in 5 (by omega) l _ _ R m A0 A1 c0 c1 WL (by omega) (by omega) bl.cell bm.cell hRL hML HC1.out HMM.out (by have := HRL.out; omega) J Jx W hW hJ hY h0)
    belowK_t (belowK_b (Nat.le_refl _)) (Below.refl _ _) (fun _ => rfl)
    (fun pre W => pre = [] ∧ ((Boxed W w1.heap.size 22 (.slice none 0 0) ∧ Boxed W (w1.heap.size + 1) 4 (.bool false)) ∧ Boxed W w.heap.size 22 (.slice A1 m.length c1)) ∧ Below WL.heap.size WL W)
    (fun c pre W => (c = .exit 0 ∧ ∃ x : Fits m, pre = [x] ∧ ∃ v, Boxed W w1.heap.size 22 v ∧ Kd.R (Kd.int .u8) 5 W w.heap.size (fun _ => True) v (cutZ x.1.f5 x.1.f6.toNat m) ∧ Boxed W (w1.heap.size + 1) 4 (.bool true)) ∧ Below w.heap.size w W)
    (fun pre X Y row hs hg hr => ⟨hs.1, ⟨⟨boxed_own _ _ (fun _ : Unit => Value.slice none 0 0) () X Y row hs.2.1.1.1 hg (fun r e => (hr r e).2), boxed_own _ _ (fun _ : Unit => Value.bool false) () X Y row hs.2.1.1.2 hg (fun r e => (hr r e).2)⟩, boxed_own _ _ (fun _ : Unit => Value.slice A1 m.length c1) () X Y row hs.2.1.2 hg (fun r e => (hr r e).2)⟩, ownFrom_below (β := Unit) (Nat.le_refl _) (Nat.le_refl _) () X Y row hs.2.2 hg hr⟩)
    (fun c pre X Y row hs hg hr => by
      obtain ⟨⟨hc, x, hp, v, h1, h2, h3⟩, h4⟩ := hs
      exact ⟨⟨hc, x, hp, v, boxed_own _ _ (fun _ : Unit => v) () X Y row h1 hg (fun r e => (hr r e).2), row_own h2 hg (fun r e => (hr r e).2), boxed_own _ _ (fun _ : Unit => Value.bool true) () X Y row h3 hg (fun r e => (hr r e).2)⟩, ownFrom_below (β := Unit) (Nat.le_refl _) (by omega) () X Y row h4 hg hr⟩)
    ⟨rfl, ⟨⟨b6, b7⟩, b3⟩, Below.refl _ _⟩
    (fun x a' W => ∃ Bx, w1.heap.size + 3 < Bx ∧ W.heap[Bx]? = some (.cells #[.int .i64 x.1.f0, .int .i64 x.1.f1, .int .i64 x.1.f2, .int .i64 x.1.f3, .int .i64 x.1.f4, .int .i64 x.1.f5, .int .i64 x.1.f6] 46 (0, 0)) ∧ a' = { tmps := #[.slice A0 R.length c0, .slice A1 m.length c1, undef, .pointer (some ⟨w.heap.size, 0, none⟩), .slice none 0 0, .bool false, .pointer (some ⟨w1.heap.size, 0, none⟩), .pointer (some ⟨w1.heap.size + 1, 0, none⟩), .pointer (some ⟨Bx, 0, none⟩), .slice A0 R.length c0, .bool true, .bool false, .bool false, .slice A1 m.length c1, .bool true, .bool false, .bool false, .slice A0 R.length c0, .slice A1 m.length c1, .func (.func 51) #[] #[.pointer (some ⟨w1.heap.size + 1 + 1, 0, none⟩), .pointer (some ⟨w1.heap.size + 1 + 1 + 1, 0, none⟩)], ruleV x.1, undef, undef, undef, undef, undef], defers := [] })
    (fun x a' _ X Y row hs hg hr => by obtain ⟨Bx, h1, h2, h3⟩ := hs; exact ⟨Bx, h1, cells_own Bx (fun _ : Unit => #[.int .i64 x.1.f0, .int .i64 x.1.f1, .int .i64 x.1.f2, .int .i64 x.1.f3, .int .i64 x.1.f4, .int .i64 x.1.f5, .int .i64 x.1.f6]) 46 () X Y row h2 hg (fun r e => (hr r e).2), h3⟩)
    ?assign ?body ?done ?stop
  case assign =>
    rintro l pre ⟨⟨r0, r1, r2, r3, r4, r5, r6⟩, hfit⟩ W K ⟨rfl, ⟨⟨b6', b7'⟩, b3'⟩, hBL⟩ hK
    have hle := hBL.size
    have HK := Aside0.mk hK
    have HBL := Aside0.mk hBL
    clear hK hBL
    dsimp only [ruleV]
    gi_wp2
    exact HK.out _ _ ((KeepsOthers.alloc _ _).from _) ((Below.refl _ W).alloc hle _) ⟨trivial, ⟨⟨b6'.alloc _, b7'.alloc _⟩, b3'.alloc _⟩, HBL.out.alloc hle _⟩ ⟨W.heap.size, by omega, heap_alloc_new W _, rfl⟩
  case body =>
    rintro l pre ⟨⟨r0, r1, r2, r3, r4, r5, r6⟩, hfit⟩ a' W hl ⟨rr, hrr⟩ ⟨rfl, ⟨⟨b6', b7'⟩, b3'⟩, hBL⟩ ⟨Bx, hBx, hblk, rfl⟩ hlt
    have hru := fit_rule hfit
    have hle := hBL.size
    have hMW := Kd.C_below hML hBL
    have HCUT := Aside0.mk (cut_any r0 r1 r2 r3 r4 r5 r6 A1 c1 m W hMW HC1.out H8.out hru.2.1 hru.2.2 hru.1.1 hru.1.2)
    have y0 := blk_cell hblk 0
    have y1 := blk_cell hblk 1
    have y2 := blk_cell hblk 2
    have y3 := blk_cell hblk 3
    have y4 := blk_cell hblk 4
    have y5 := blk_cell hblk 5
    have y6 := blk_cell hblk 6
    have cm := b3'.cell
    have hlt6 := b6'.lt
    have hlt7 := b7'.lt
    have HB6 := Aside0.mk b6'
    have HB7 := Aside0.mk b7'
    have HBL := Aside0.mk hBL
    have HB0 := Aside0.mk hB0
    have HFIT := Aside0.mk hfit
    obtain ⟨xs, hxs⟩ : ∃ xs : Fits m, xs = ⟨⟨r0, r1, r2, r3, r4, r5, r6⟩, hfit⟩ := ⟨_, rfl⟩
    have HX5 : Aside0 (xs.1.f5 = r5 ∧ xs.1.f6 = r6) := ⟨by rw [hxs]; exact ⟨rfl, rfl⟩⟩
    have HXS := Aside0.mk hxs
    clear hblk b3' b6' b7' hBL hB0 hru hMW hRL hML bl bm b6 b7 b3 hxs
    gi_wp2_with (refine ⟨trivial, ?_⟩; gi_at_call 45; refine (CallsIn.inRound l (callsIn_wide.2 HCUT.out)).mono ?_; rintro e w2 ⟨v, rfl, hv, hb⟩; obtain ⟨A2, c2, hve⟩ := Kd.R_slice hv; subst hve; have hb6 := blk_below HB6.out hb; have hb7 := blk_below HB7.out hb; have c6 := blk_cell hb6 0; have f6 := blk_frozen hb6 0; have c7 := blk_cell hb7 0; have f7 := blk_frozen hb7 0; have H6 := Aside0.mk hb6; have H7 := Aside0.mk hb7; have HV := Aside0.mk hv; have HB2 := Aside0.mk hb; clear hv hb hb6 hb7)
    refine ⟨(((KeepsOthers.of_grownBy (grown_of_below HB2.out) (fun j o e _ => by cases e)).trans (KeepsOthers.setCell _ _ _)).trans (KeepsOthers.setCell _ _ _)).from _, ⟨rfl, xs, by rw [HXS.out]; rfl, .slice A2 (cutZ r5 r6.toNat m).length c2, ?_, ?_, ?_⟩, ?_⟩
    · exact (Boxed.set (B := w1.heap.size) _ H6.out).other (by omega) _
    · rw [HX5.out.1, HX5.out.2]
      have hb0 : w.heap.size ≤ W.heap.size := by have := HB0.out.size; omega
      refine Kd.R_lower (Kd.R_far (Kd.R_far (Kd.R_mono (Kd.R_bound HV.out) (ok' := fun k => W.heap.size ≤ k) (fun k hk => hk.2.1)) (p := ⟨w1.heap.size, 0, none⟩) (fun k hk => by show k ≠ w1.heap.size; omega) _) (p := ⟨w1.heap.size + 1, 0, none⟩) (fun k hk => by show k ≠ w1.heap.size + 1; omega) _) hb0 |> fun h => Kd.R_mono h (fun _ _ => trivial)
    · exact Boxed.set (B := w1.heap.size + 1) _ (Boxed.other H7.out (by omega) _)
    · have hb0 : w.heap.size ≤ W.heap.size := by have := HB0.out.size; omega
      exact (((HB0.out.trans (HBL.out.mono HB0.out.size)).trans (HB2.out.mono hb0)).setCell (p := ⟨w1.heap.size, 0, none⟩) (by show w.heap.size ≤ w1.heap.size; omega) _).setCell (p := ⟨w1.heap.size + 1, 0, none⟩) (by show w.heap.size ≤ w1.heap.size + 1; omega) _
  case done =>
    rintro D ys W hD rfl ⟨hnil, ⟨⟨b6', b7'⟩, b3'⟩, hBL⟩ hK
    have c6 := b6'.cell
    have c7 := b7'.cell
    have hfind : R.find? (fitO m) = none := by rw [alls_find, hnil]; rfl
    have HF := Aside0.mk hfind
    have HKD := Aside0.mk hK
    have HBB : Aside0 (Below w.heap.size w W) := ⟨hB0.trans (hBL.mono hB0.size)⟩
    clear b6' b7' b3' hK hBL hfind hnil hB0 hB01
    go_wp2
    go_quiet (fail)
    go_wp2
    rw [Exit.noGoto_ret]
    refine ⟨by simp, .inl ⟨_, _, rfl, run_takeDeferred (w := W.drewN nq) HKD.out, ?_⟩⟩
    refine ⟨_, results_tmp2 rfl _ _ _, _, _, rfl, ?_, ?_, ?_⟩
    · rw [HF.out]
      exact Kd.R_nil _ _ _ _ _
    · rw [HF.out]
      rfl
    · exact (HBB.out.trans (pw_below_drewN (Below.refl _ _) nq)).trans (belowK_b (w := w) (Nat.le_refl _) (W.drewN nq) D _ _ (by omega) HKD.out rfl rfl)
  case stop =>
    rintro D c pre W hD hpre ⟨⟨rfl, x, rfl, v, b6', hv, b7'⟩, hB⟩ hK
    have c6 := b6'.cell
    have c7 := b7'.cell
    have hfind : R.find? (fitO m) = some x.1 := by
      obtain ⟨tl, htl⟩ := hpre
      rw [alls_find, ← htl]
      rfl
    obtain ⟨A2, c2, hve⟩ := Kd.R_slice hv
    subst hve
    have HF := Aside0.mk hfind
    have HKD := Aside0.mk hK
    have HBB := Aside0.mk hB
    have HV := Aside0.mk hv
    clear b6' b7' hK hB hfind hpre hB0 hB01 hv
    refine wpIn_wide.2 ?_
    go_wp2
    go_quiet (fail)
    go_wp2
    rw [Exit.noGoto_ret]
    refine ⟨by simp, .inl ⟨_, _, rfl, run_takeDeferred (w := W.drewN nq) HKD.out, ?_⟩⟩
    refine ⟨_, results_tmp2 rfl _ _ _, _, _, rfl, ?_, ?_, ?_⟩
    · rw [HF.out]
      exact row_own (Kd.R_drewN HV.out nq) (grownBy_putObj' _ D (.deferred none)) (fun r e => by cases e; exact ⟨_, HKD.out, rfl⟩)
    · rw [HF.out]
      rfl
    · exact (HBB.out.trans (pw_below_drewN (Below.refl _ _) nq)).trans (belowK_b (w := w) (Nat.le_refl _) (W.drewN nq) D _ _ (by omega) HKD.out rfl rfl)
theorem do_told (R : List S46) (m : List Int) (A0 A1 : Option Addr) (c0 c1 : Nat) (w : World) (hA : Kd.C k46 w A0 R.length R) (hc : R.length ≤ c0) (hM : Kd.C (Kd.int .u8) w A1 m.length m) (hc1 : m.length ≤ c1) (r1 : List Int) (r2 : Bool) (h : (if (m.all fun y => (Lit.int .u8 y).wf) = true then some (doZ R m) else none) = some (r1, r2)) :
    Calls Try.prog 24 #[.slice A0 R.length c0, .slice A1 m.length c1] w fun e w' => ∃ v, e = .returned (.tuple #[v, .bool r2]) ∧ Kd.R (Kd.int .u8) 5 w' w.heap.size (fun _ => True) v r1 ∧ Below w.heap.size w w' := by
  by_cases hb : (m.all fun y => (Lit.int .u8 y).wf) = true
  · rw [if_pos hb] at h
    have h' := Option.some.inj h
    have hm : ∀ y ∈ m, (Lit.int .u8 y).wf = true := fun y hy => List.all_eq_true.1 hb y hy
    unfold doZ at h'
    by_cases hok : rulesB R = true ∧ m.length ≤ 8
    · rw [if_pos hok] at h'
      have hl : R.length ≤ 4 := by
        have := hok.1
        unfold rulesB at this
        rw [Bool.and_eq_true] at this
        exact of_decide_eq_true this.1
      refine (do_good R m A0 A1 c0 c1 w hA hc hM hc1 hm hl hok.1 hok.2).mono ?_
      rintro e w' ⟨v, b, rfl, hv, hbb, hB⟩
      cases hf : R.find? (fitO m) with
      | none =>
        rw [hf] at h' hv hbb
        injection h' with e1 e2
        subst e1 e2 hbb
        exact ⟨v, rfl, hv, hB⟩
      | some r =>
        rw [hf] at h' hv hbb
        injection h' with e1 e2
        subst e1 e2 hbb
        exact ⟨v, rfl, hv, hB⟩
    · rw [if_neg hok] at h'
      injection h' with e1 e2
      subst e1 e2
      refine (do_bad R m A0 A1 c0 c1 w hA hc hM ?_).mono ?_
      · cases hr : rulesB R
        · exact .inl rfl
        · exact .inr ⟨rfl, Nat.lt_of_not_le (fun h => hok ⟨hr, h⟩)⟩
      · rintro e w' ⟨rfl, hB⟩
        exact ⟨_, rfl, Kd.R_nil _ _ _ _ _, hB⟩
  · rw [if_neg hb] at h
    exact absurd h (by simp)
end Go.Proofs.YtlmlbodbloahlaaGrdDo
