/- The closure of grdFitting tells the rules that fit a message, in order. Conditions: the rules and the message can be read. -/
import Derived.Test.YtlmlbodbloahlaaVPGrdBase
import Derived.Test.YtlmlbodbloahlaaVGrdCut
import Derived.Test.YtlmlbodbloahlaaVPl
import Derived.RangeFuncNested
import Derived.RangeFuncBound
import Derived.RangeFuncCalls
import Derived.RangeFuncLeaves
import Derived.Shelf.Abstract
import Derived.WalkKit
import Derived.OwnWalkIn
import Derived.TacticsInMore
import Derived.LoopNIn
import Derived.LoopIn
set_option linter.unusedVariables false
set_option linter.unusedSimpArgs false
namespace Go.Proofs.YtlmlbodbloahlaaGrdIter
open Go.RowKit Go.Shelf Go.Proofs.YtlmlbodbloahlaaW.PrintWords Go.Proofs.Ytlmlbodbloahlaa.PGrdBase Go.Proofs.YtlmlbodbloahlaaPl Go.Proofs.YtlmlbodbloahlaaGrdCut
attribute [local go_sem] Oper.semAt_some

def ruleB (a b c d e f g : Int) : Bool := decide ((0 ≤ a ∧ a ≤ 8) ∧ (a ≤ b ∧ b ≤ 8) ∧ (-1 ≤ c ∧ c ≤ 7) ∧ (0 ≤ d ∧ d ≤ 255) ∧ (d ≤ e ∧ e ≤ 255) ∧ (-1 ≤ f ∧ f ≤ 7) ∧ (0 ≤ g ∧ g ≤ 8))
theorem if_step {p q : Prop} [Decidable p] [Decidable q] {x : Option Bool} (h : p → x = some (decide q)) (hq : ¬ p → ¬ q) : (if p then x else some false) = some (decide q) := by
  by_cases hp : p
  · rw [if_pos hp, h hp]
  · rw [if_neg hp]
    simp [hq hp]
theorem implRule_eq (a b c d e f g : Int) : impl_GrdRuleOk.f a b c d e f g = some (ruleB a b c d e f g) := by
  unfold impl_GrdRuleOk.f ruleB
  repeat' (refine if_step (fun _ => ?_) (by omega))
  congr 1
  rw [decide_eq_decide]
  omega
theorem rd_range {l : List Int} (hl : ∀ x ∈ l, (Lit.int .u8 x).wf = true) (i : Int) : 0 ≤ rd l i ∧ rd l i ≤ 255 := by
  unfold rd
  rw [List.getD_eq_getElem?_getD]
  by_cases h : i.toNat < l.length
  · rw [List.getElem?_eq_getElem h]
    exact wf_u8 (hl _ (List.getElem_mem h))
  · rw [List.getElem?_eq_none (by omega)]
    simp
def fitsB (a b c d e f g : Int) (l : List Int) : Bool := ruleB a b c d e f g && (decide ((l.length : Int) ≤ 8) && (decide (a ≤ (l.length : Int) ∧ (l.length : Int) ≤ b) && (decide (c = -1) || (decide (c < (l.length : Int)) && decide (d ≤ rd l c ∧ rd l c ≤ e)))))
theorem rule_at {a b c d e f g : Int} (h : ruleB a b c d e f g = true) : -1 ≤ c := by
  unfold ruleB at h
  rw [decide_eq_true_eq] at h
  omega
theorem implFits_eq (a b c d e f g : Int) (l : List Int) (hl : ∀ x ∈ l, (Lit.int .u8 x).wf = true) (k : Nat) : impl_GrdFits.f (k + 1) a b c d e f g l = some (fitsB a b c d e f g l) := by
  have hr := rd_range hl c
  unfold impl_GrdFits.f impl_BytMessage.f fitsB
  rw [implRule_eq]
  simp only [Option.bind_some, impl_GrdFits.j0]
  rw [wrap_in (by omega) (by omega)]
  by_cases h1 : ruleB a b c d e f g = true
  · have hc := rule_at h1
    rw [if_pos h1, h1]
    by_cases h2 : (l.length : Int) ≤ 8
    · by_cases h3 : (l.length : Int) < a
      · simp [h2, h3, show ¬ a ≤ (l.length : Int) by omega]
      · by_cases h6 : (l.length : Int) > b
        · simp [h2, h3, h6, show ¬ (l.length : Int) ≤ b by omega]
        · by_cases h4 : c = -1
          · simp [h2, h3, h4, h6, show a ≤ (l.length : Int) by omega, show (l.length : Int) ≤ b by omega]
          · by_cases h5 : c < (l.length : Int)
            · by_cases h7 : d ≤ rd l c
              · simp [h2, h3, h4, h5, h6, h7, show 0 ≤ c by omega, show a ≤ (l.length : Int) by omega, show (l.length : Int) ≤ b by omega]
              · simp [h2, h3, h4, h5, h6, h7, show 0 ≤ c by omega, show a ≤ (l.length : Int) by omega, show (l.length : Int) ≤ b by omega]
            · simp [h2, h3, h4, h5, h6, show a ≤ (l.length : Int) by omega, show (l.length : Int) ≤ b by omega]
    · simp [h2]
  · rw [if_neg h1]
    simp [h1]
theorem rdB_nat (l : List S46) (i : Nat) (h : i < l.length) : rd_T46 l (i : Int) = l[i] := by
  simp [rd_T46, h]
def ruleOf (x : S46) : Bool := ruleB x.f0 x.f1 x.f2 x.f3 x.f4 x.f5 x.f6
def rulesB (l : List S46) : Bool := decide (l.length ≤ 4) && l.all ruleOf
theorem range_all (l : List S46) : ((List.range l.length).all fun i => ruleOf (rd_T46 l i)) = l.all ruleOf := by
  rw [Bool.eq_iff_iff, List.all_eq_true, List.all_eq_true]
  constructor
  · intro h x hx
    obtain ⟨i, hi, rfl⟩ := List.getElem_of_mem hx
    have := h i (by simpa using hi)
    rwa [rdB_nat l i hi] at this
  · intro h i hi
    have hi' : i < l.length := by simpa using hi
    rw [rdB_nat l i hi']
    exact h _ (List.getElem_mem hi')
theorem implRules_eq (l : List S46) (k : Nat) (hk : 6 ≤ k) : impl_GrdOk.f k l = some (rulesB l) := by
  unfold impl_GrdOk.f rulesB
  by_cases h : (l.length : Int) > 4
  · rw [if_pos h]
    simp [show ¬ l.length ≤ 4 by omega]
  · rw [if_neg h]
    have h1 := all_loop (fun k i => impl_GrdOk.l0 k l (l.length : Int) i) l.length (fun i => ruleOf (rd_T46 l i)) (fun k i hi => by
      simp only [impl_GrdOk.l0, implRule_eq, Option.bind_some]
      rw [if_pos (by omega), if_pos (by omega), if_pos (by omega), wrap_nat (by omega)]
      rfl) (fun k => by
      simp only [impl_GrdOk.l0]
      rw [if_neg (by omega)]) k (by omega)
    rw [range_all] at h1
    rw [h1]
    simp [show l.length ≤ 4 by omega]

def fitO (m : List Int) (x : S46) : Bool := fitsB x.f0 x.f1 x.f2 x.f3 x.f4 x.f5 x.f6 m
def ruleV (x : S46) : Value := .agg #[.int .i64 x.f0, .int .i64 x.f1, .int .i64 x.f2, .int .i64 x.f3, .int .i64 x.f4, .int .i64 x.f5, .int .i64 x.f6]
theorem fits_any (x : S46) (A : Option Addr) (c : Nat) (m : List Int) (w : World) (hA : Kd.C (Kd.int .u8) w A m.length m) (hc : m.length ≤ c) (hm : ∀ y ∈ m, (Lit.int .u8 y).wf = true) :
    Calls Try.prog 31 #[ruleV x, .slice A m.length c] w fun e w' => e = .returned (.bool (fitO m x)) ∧ Below w.heap.size w w' :=
  impl_GrdFits.calls 1 x.f0 x.f1 x.f2 x.f3 x.f4 x.f5 x.f6 A c m (fitO m x) w hA hc (implFits_eq _ _ _ _ _ _ _ m hm 0)
theorem grown_of_below {w w' : World} (h : Below w.heap.size w w') : w.grownBy w' none := ⟨h.os, h.tape, h.output, h.size, fun k hk _ => h.block k hk⟩
/-- A rule that fits a message. -/
abbrev Fits (m : List Int) : Type := { x : S46 // fitO m x = true }
def sub (m : List Int) (x : S46) : Option (Fits m) := if h : fitO m x = true then some ⟨x, h⟩ else none
/-- The rules that fit, of the first k. -/
def fit (m : List Int) (R : List S46) (k : Nat) : List (Fits m) := (R.take k).filterMap (sub m)
def alls (m : List Int) (R : List S46) : List (Fits m) := R.filterMap (sub m)
theorem fit_yes {m : List Int} {R : List S46} {k : Nat} (h : k < R.length) (hf : fitO m R[k] = true) : fit m R (k + 1) = fit m R k ++ [⟨R[k], hf⟩] := by
  unfold fit
  rw [List.take_succ_eq_append_getElem h, List.filterMap_append]
  simp [sub, hf]
theorem fit_no {m : List Int} {R : List S46} {k : Nat} (h : k < R.length) (hf : fitO m R[k] = false) : fit m R (k + 1) = fit m R k := by
  unfold fit
  rw [List.take_succ_eq_append_getElem h, List.filterMap_append]
  simp [sub, hf]
theorem fit_all (m : List Int) (R : List S46) : fit m R R.length = alls m R := by
  unfold fit alls
  rw [List.take_length]
theorem fit_pre (m : List Int) (R : List S46) (k : Nat) : fit m R k <+: alls m R := by
  unfold fit alls
  exact (List.take_prefix k R).filterMap _
theorem fit_lt {m : List Int} {R : List S46} {k : Nat} (h : k < R.length) (hf : fitO m R[k] = true) : (fit m R k).length < (alls m R).length := by
  have h1 := (fit_pre m R (k + 1)).length_le
  rw [fit_yes h hf, List.length_append, List.length_singleton] at h1
  omega
theorem alls_find (m : List Int) (R : List S46) : R.find? (fitO m) = (alls m R).head?.map (·.1) := by
  induction R with
  | nil => rfl
  | cons r R ih =>
    unfold alls at *
    rw [List.find?_cons, List.filterMap_cons]
    by_cases h : fitO m r = true
    · simp [sub, h]
    · have h' : fitO m r = false := by simpa using h
      simp [sub, h']
      rw [ih]
      simp

set_option maxRecDepth 100000 in
set_option maxHeartbeats 4000000 in
theorem fitting1_in (n : Nat) (hn : 1 ≤ n) (l Bl Bm : Nat) (R : List S46) (m : List Int) (A0 A1 : Option Addr) (c0 c1 : Nat) (w0 : World) (hBl : Bl < w0.heap.size) (hBm : Bm < w0.heap.size)
    (hcl : w0.cell? ⟨Bl, 0, none⟩ = some (.slice A0 R.length c0)) (hcm : w0.cell? ⟨Bm, 0, none⟩ = some (.slice A1 m.length c1)) (hR : Kd.C k46 w0 A0 R.length R) (hM : Kd.C (Kd.int .u8) w0 A1 m.length m) (hc1 : m.length ≤ c1) (hm : ∀ y ∈ m, (Lit.int .u8 y).wf = true) (hRl : R.length ≤ 100)
    (J Jx : List (Fits m) → World → Prop) (W : World) (hW : Below w0.heap.size w0 W) (hJ : AbidesFrom W.heap.size J)
    (hY : ∀ pre x W1, J pre W1 → pre.length < (alls m R).length → YieldAt Fence.wide (n - 1) Try.prog l #[ruleV x.1] W1 fun e W' =>
      (e = .returned (.bool true) ∧ J (pre ++ [x]) W' ∧ Below w0.heap.size W1 W') ∨ (e = .returned (.bool false) ∧ Jx (pre ++ [x]) W')) (h0 : J [] W) :
    CallsIn Fence.wide n Try.prog 51 #[.func (.yield l) #[] #[], .pointer (some ⟨Bl, 0, none⟩), .pointer (some ⟨Bm, 0, none⟩)] W fun e W' => (∃ v, e = .returned v) ∧
      ((∃ ys, ys = alls m R ∧ J ys W') ∨ (∃ pre, pre <+: alls m R ∧ Jx pre W')) := by
  have HR := Aside0.mk hR
  have HM := Aside0.mk hM
  have HJ := Aside0.mk hJ
  have HY := Aside0.mk hY
  have HC1 := Aside0.mk hc1
  have HMM := Aside0.mk hm
  have HBl := Aside0.mk hBl
  have HBm := Aside0.mk hBm
  have HCM := Aside0.mk hcm
  have hcl1 := (hW.cell (p := ⟨Bl, 0, none⟩) hBl).trans hcl
  obtain ⟨q, hq⟩ : ∃ q, q = R.length := ⟨_, rfl⟩
  obtain ⟨p, hp⟩ : ∃ p, p = m.length := ⟨_, rfl⟩
  rw [← hq] at hcl1 hRl
  have HQ := Aside0.mk hq
  have HW := Aside0.mk hW
  clear hR hM hJ hY hc1 hm hBl hBm hcl hcm hq hW hp
  refine callsIn_of_wp Try.func51 rfl trivial ?_ rfl
  simp only [Try.ntmps51, List.size_toArray, List.length_cons, List.length_nil, Nat.reduceAdd, Nat.reduceSub, Array.replicate_succ, Array.replicate_zero, List.push_toArray, List.append_toArray, List.nil_append, List.cons_append]
  gi_wp2
  gi_loopw [8] (fun i wr => ∃ k : Nat, k ≤ q ∧ i = .int .i64 k ∧ Aside0 (J (fit m R k) wr) ∧ Aside0 (Below w0.heap.size w0 wr)  )
    (fun i _ => q - (intOf i).toNat)
  case atStart => exact ⟨0, Nat.zero_le _, rfl, ⟨h0⟩, HW⟩
  case round =>
    obtain ⟨k, hk, rfl, HJs, HB⟩ := hrel
    by_cases hlt : k < q
    · have hlt' : k < R.length := by rw [← HQ.out]; exact hlt
      obtain ⟨ad, e0, x0, x1, x2, x3, x4, x5, x6⟩ := at_T46 HR.out (k : Int) (by omega) (by omega)
      subst e0
      replace x0 := (HB.out.cell (World.block_lt_of_cell? w0 _ x0)).trans x0
      replace x1 := (HB.out.cell (World.block_lt_of_cell? w0 _ x1)).trans x1
      replace x2 := (HB.out.cell (World.block_lt_of_cell? w0 _ x2)).trans x2
      replace x3 := (HB.out.cell (World.block_lt_of_cell? w0 _ x3)).trans x3
      replace x4 := (HB.out.cell (World.block_lt_of_cell? w0 _ x4)).trans x4
      replace x5 := (HB.out.cell (World.block_lt_of_cell? w0 _ x5)).trans x5
      replace x6 := (HB.out.cell (World.block_lt_of_cell? w0 _ x6)).trans x6
      have hrk := rdB_nat R k hlt'
      have HYES : ∀ hb : fitO m R[k] = true, fit m R (k + 1) = fit m R k ++ [⟨R[k], hb⟩] ∧ (fit m R k).length < (alls m R).length := fun hb => And.intro (fit_yes hlt' hb) (fit_lt hlt' hb)
      have HNO : fitO m R[k] = false → fit m R (k + 1) = fit m R k := fun hb => fit_no hlt' hb
      rw [hrk] at x0 x1 x2 x3 x4 x5 x6
      rw [Int.toNat_natCast] at x0 x1 x2 x3 x4 x5 x6
      obtain ⟨r, hr⟩ : ∃ r, R[k] = r := ⟨_, rfl⟩
      subst hr
      clear hrk
      have HYA := Aside0.mk HYES
      have HNA := Aside0.mk HNO
      clear HYES HNO
      generalize R[k] = r at *
      obtain ⟨r0, r1, r2, r3, r4, r5, r6⟩ := r
      have hcm1 : (wr.alloc (.cells #[.int .i64 r0, .int .i64 r1, .int .i64 r2, .int .i64 r3, .int .i64 r4, .int .i64 r5, .int .i64 r6] 46)).cell? ⟨Bm, 0, none⟩ = some (.slice A1 m.length c1) := by
        have hlt2 : Bm < wr.heap.size := Nat.lt_of_lt_of_le HBm.out HB.out.size
        rw [World.cell?_alloc_lt _ _ ⟨Bm, 0, none⟩ hlt2]
        exact (HB.out.cell (p := ⟨Bm, 0, none⟩) HBm.out).trans HCM.out
      have HF := Aside0.mk (fits_any ⟨r0, r1, r2, r3, r4, r5, r6⟩ A1 c1 m (wr.alloc (.cells #[.int .i64 r0, .int .i64 r1, .int .i64 r2, .int .i64 r3, .int .i64 r4, .int .i64 r5, .int .i64 r6] 46)) (Kd.C_alloc (Kd.C_below HM.out HB.out) _) HC1.out HMM.out)
      have HJ1 : Aside0 (∀ w2, Below (wr.alloc (.cells #[.int .i64 r0, .int .i64 r1, .int .i64 r2, .int .i64 r3, .int .i64 r4, .int .i64 r5, .int .i64 r6] 46)).heap.size (wr.alloc (.cells #[.int .i64 r0, .int .i64 r1, .int .i64 r2, .int .i64 r3, .int .i64 r4, .int .i64 r5, .int .i64 r6] 46)) w2 → J (fit m R k) w2) := ⟨fun w2 h2 => HJ.out _ _ _ none (HJ.out _ _ _ none HJs.out (World.grownBy_alloc wr _ none) (fun _ e => by cases e)) (grown_of_below h2) (fun _ e => by cases e)⟩
      obtain ⟨W1, hW1⟩ : ∃ W1, wr.alloc (.cells #[.int .i64 r0, .int .i64 r1, .int .i64 r2, .int .i64 r3, .int .i64 r4, .int .i64 r5, .int .i64 r6] 46) = W1 := ⟨_, rfl⟩
      have HN : Aside0 (W1.heap[wr.heap.size]? = some (.cells #[.int .i64 r0, .int .i64 r1, .int .i64 r2, .int .i64 r3, .int .i64 r4, .int .i64 r5, .int .i64 r6] 46)) := ⟨by rw [← hW1]; exact heap_alloc_new wr _⟩
      have HB1 : Aside0 (Below w0.heap.size w0 W1) := ⟨by rw [← hW1]; exact HB.out.alloc HB.out.size _⟩
      have HS1 : Aside0 (wr.heap.size < W1.heap.size) := ⟨by rw [← hW1]; simp⟩
      have HW1 := Aside0.mk hW1
      rw [hW1] at HF HJ1
      clear hW1
      cases hb : fitO m ⟨r0, r1, r2, r3, r4, r5, r6⟩
      · have hno := HNA.out hb
        have HNO2 := Aside0.mk hno
        rw [hb] at HF
        clear hb hno
        gi_wp2_with (refine ⟨trivial, ?_⟩; gi_at_call 31; rw [HW1.out]; refine (callsIn_wide.2 HF.out).mono ?_; rintro e w2 ⟨rfl, hb2⟩; have HB2 := Aside0.mk hb2; clear hb2)
        refine ⟨fun _ h => (by cases h), ?_⟩
        gi_wp2
        go_roundw
        case rel => exact ⟨k + 1, by omega, by go_num, ⟨by rw [HNO2.out]; exact HJ1.out _ HB2.out⟩, ⟨HB1.out.trans (HB2.out.mono HB1.out.size)⟩⟩
        case measure => simp [intOf]; omega
      · obtain ⟨hyes, hl⟩ := HYA.out hb
        obtain ⟨rs, hrs⟩ : ∃ rs : Fits m, rs = ⟨⟨r0, r1, r2, r3, r4, r5, r6⟩, hb⟩ := ⟨_, rfl⟩
        rw [← hrs] at hyes
        have HV : Aside0 (ruleV rs.1 = .agg #[.int .i64 r0, .int .i64 r1, .int .i64 r2, .int .i64 r3, .int .i64 r4, .int .i64 r5, .int .i64 r6]) := ⟨by rw [hrs]; rfl⟩
        have HYES2 := Aside0.mk hyes
        have HL := Aside0.mk hl
        have HF2 : Aside0 (Calls Try.prog 31 #[(.agg #[.int .i64 r0, .int .i64 r1, .int .i64 r2, .int .i64 r3, .int .i64 r4, .int .i64 r5, .int .i64 r6]), .slice A1 m.length c1] W1 fun e w' => e = .returned (.bool true) ∧ Below W1.heap.size W1 w') := ⟨by have := HF.out; rw [hb] at this; exact this⟩
        clear hb hrs hyes hl HF
        gi_wp2_with (refine ⟨trivial, ?_⟩; gi_at_call 31; rw [HW1.out]; refine (callsIn_wide.2 HF2.out).mono ?_; rintro e w2 ⟨rfl, hb2⟩; have HB2 := Aside0.mk hb2; have hblk := blk_below HN.out hb2; have y0 := blk_cell hblk 0; have y1 := blk_cell hblk 1; have y2 := blk_cell hblk 2; have y3 := blk_cell hblk 3; have y4 := blk_cell hblk 4; have y5 := blk_cell hblk 5; have y6 := blk_cell hblk 6; obtain ⟨fn, tmps, assign, body, hy, hR⟩ := HY.out _ rs w2 (HJ1.out _ hb2) HL.out; have hy' : (Instr.yield l #[(.agg #[.int .i64 r0, .int .i64 r1, .int .i64 r2, .int .i64 r3, .int .i64 r4, .int .i64 r5, .int .i64 r6])]).run Try.prog w2 = .ok (.round l fn tmps assign body) w2 := (by rw [← HV.out]; exact hy); have HRR := Aside0.mk hR; clear hb2 hy hR hblk)
        refine HRR.out.mono ?_
        rintro e W3 (⟨rfl, hJ3, hk3⟩ | ⟨rfl, hJx3⟩)
        · have HJ3 := Aside0.mk hJ3
          have HK3 := Aside0.mk hk3
          clear hJ3 hk3
          gi_wp2
          go_roundw
          case rel => exact ⟨k + 1, by omega, by go_num, ⟨by rw [HYES2.out]; exact HJ3.out⟩, ⟨(HB1.out.trans (HB2.out.mono HB1.out.size)).trans HK3.out⟩⟩
          case measure => simp [intOf]; omega
        · have HJ3 := Aside0.mk hJx3
          clear hJx3
          gi_wp2
          refine bodyPost_ret (results_none rfl _ _ _) rfl ?_
          exact ⟨⟨_, rfl⟩, .inr ⟨_, by rw [← HYES2.out]; exact fit_pre _ _ _, HJ3.out⟩⟩
    · obtain rfl : k = q := by omega
      gi_wp2
      go_end0
      exact ⟨⟨_, rfl⟩, .inl ⟨_, by rw [← fit_all, ← HQ.out], HJs.out⟩⟩
end Go.Proofs.YtlmlbodbloahlaaGrdIter
