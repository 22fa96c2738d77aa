/- The ring of messages: boxFill lays copies of a box's messages into a new ring. Conditions: four messages at most, of eight bytes at most. -/
import Derived.Test.YtekeehhbalhfiaaPBoxBase
import Derived.Test.YtekeehhbalhfiaaBoxPut1
import Derived.Test.YtekeehhbalhfiaaBoxList
set_option linter.unusedVariables false
set_option linter.unusedSimpArgs false
namespace Go.Proofs.YtekeehhbalhfiaaBoxFill
open Go.RowKit Go.Proofs.YtekeehhbalhfiaaW.PrintWords Go.Proofs.YtekeehhbalhfiaaBoxPut1 Go.Proofs.YtekeehhbalhfiaaBoxList Go.Proofs.Ytekeehhbalhfiaa.PBoxBase

/-- Element k's bytes lie in blocks that T gives k. -/
def Elems (T : Nat → Nat) (w : World) (base : Nat) (us : List Sl) (L : List (List Int)) : Prop := us.length = L.length ∧ ∀ k s x, us[k]? = some s → L[k]? = some x → Kd.R (Kd.int .u8) 5 w base (fun b => T b = k ∧ b < w.heap.size) s.v x

theorem R_away61 {w1 w2 : World} {base g : Nat} {ok : Nat → Prop} {v : Value} {x : List Int} {cs : Array Value} (h : Kd.R (Kd.int .u8) 5 w1 base ok v x) (hG : w1.heap[g]? = some (.cells cs 61 (0, 0))) (hk : KeepBut w1 w2 g none) : Kd.R (Kd.int .u8) 5 w2 base ok v x :=
  Kd.R_mono (Kd.R_keep (Kd.R_types h hG (fun q hq => by
    have : q = 5 := by simpa [Kd.int, Kd.scalar] using hq
    omega)) hk (fun _ hk => hk.2)) (fun _ hk => hk.1)

theorem elems_step {T : Nat → Nat} {w w1 w2 : World} {base g k : Nat} {us : List Sl} {L : List (List Int)} {s : Sl} {x : List Int} {cs : Array Value} (he : Elems T w base us (L.take k)) (hL : k < L.length) (hk : L.getD k [] = x) (hb : Below w.heap.size w w1) (hv : Kd.R (Kd.int .u8) 5 w1 w.heap.size (fun _ => True) s.v x) (hG : w1.heap[g]? = some (.cells cs 61 (0, 0))) (hkeep : KeepBut w1 w2 g none) (hbase : base ≤ w.heap.size) : ∃ T', Elems T' w2 base (us ++ [s]) (L.take (k + 1)) := by
  have hlen : us.length = k := by rw [he.1, List.length_take]; omega
  have hs1 := hb.size
  have hs2 := hkeep.1
  refine ⟨fun b => if b < w.heap.size then T b else k, ?_, ?_⟩
  · rw [List.length_append, hlen, List.length_take]
    simp
    omega
  · intro j t y ht hy
    rw [List.getElem?_take] at hy
    by_cases hj : j < k
    · rw [List.getElem?_append_left (by omega)] at ht
      have hy' : (L.take k)[j]? = some y := by
        rw [List.getElem?_take, if_pos hj]
        rwa [if_pos (by omega)] at hy
      have h := he.2 j t y ht hy'
      refine Kd.R_mono (R_away61 (Kd.R_below h hb) hG hkeep) (fun b hb => ⟨?_, by omega⟩)
      simp only
      rw [if_pos hb.2]
      exact hb.1
    · obtain rfl : j = k := by
        by_cases h2 : j < k + 1
        · omega
        · rw [if_neg h2] at hy
          cases hy
      rw [List.getElem?_append_right (by omega), hlen, Nat.sub_self] at ht
      have ht : s = t := Option.some.inj ht
      subst ht
      rw [if_pos (by omega)] at hy
      have : y = x := by
        rw [← hk, List.getD_eq_getElem?_getD, hy]
        rfl
      subst this
      refine Kd.R_mono (R_away61 (Kd.R_lower (Kd.R_bound hv) hbase) hG hkeep) (fun b hb => ⟨?_, by omega⟩)
      simp only
      exact if_neg (by have := hb.2.1; omega)

def FillRel (L : List (List Int)) (g : Nat) (w : World) (k : Nat) (wr : World) : Prop :=
  ∃ us T, wr.heap[g]? = some (.cells (ring us) 61 (0, 0)) ∧ Elems T wr w.heap.size us (L.take k) ∧ Below w.heap.size w wr

set_option maxRecDepth 100000 in
set_option maxHeartbeats 4000000 in
theorem fill_any (dep : Int) (A : Option Addr) (c : Nat) (L : List (List Int)) (w : World) (hA : Kd.C (Kd.slice 5 (Kd.int .u8)) w A L.length L) (hc : L.length ≤ c) (hL : L.length ≤ 4) (h8 : ∀ x ∈ L, x.length ≤ 8) :
    Calls Try.prog 34 #[.agg #[.int .i64 dep, .slice A L.length c]] w fun e w' => e = .returned (.pointer (some ⟨w.heap.size + 1, 0, none⟩)) ∧ FillRel L (w.heap.size + 1) w L.length w' := by
  have HA := Aside0.mk hA
  have H8 := Aside0.mk h8
  obtain ⟨n, hn⟩ : ∃ n, n = L.length := ⟨_, rfl⟩
  rw [← hn] at hL hc ⊢
  have HN := Aside0.mk hn
  clear hA h8 hn
  go_enter Try.func34, Try.ntmps34
  go_wp2
  go_loopw [10] (fun i wr => ∃ k : Nat, k ≤ n ∧ i = .int .i64 k ∧ Aside0 (FillRel L (w.heap.size + 1) w k wr)) (fun i _ => n - (intOf i).toNat)
  case atStart =>
    refine ⟨0, Nat.zero_le _, rfl, ⟨[], fun _ => 0, ?_, ⟨rfl, fun k s x h => by simp at h⟩, ?_⟩⟩
    · have h := heap_alloc_new (w.alloc (.cells #[.int .i64 dep, .slice A n c] 25)) (.cells (ring []) 61 (0, 0))
      rw [show (w.alloc (.cells #[.int .i64 dep, .slice A n c] 25)).heap.size = w.heap.size + 1 by simp] at h
      exact h
    · exact ((Below.refl _ _).alloc (Nat.le_refl _) _).alloc (by simp) _
  case round =>
    obtain ⟨k, hk, rfl, HR⟩ := hrel
    by_cases hlt : k < n
    · obtain ⟨us, T, hG, hE, hB⟩ := HR.out
      have hlen : us.length = k := by rw [hE.1, List.length_take, ← HN.out]; omega
      have hat := at_L1 (Kd.C_below HA.out hB) (k : Int) (by omega) (by rw [← HN.out]; omega)
      obtain ⟨ad, A0, c0, rfl, hx, hl0, hC⟩ := hat
      obtain ⟨x, hx'⟩ : ∃ x, x = rd_L1 L (k : Int) := ⟨_, rfl⟩
      rw [← hx', show ((k : Int)).toNat = k from rfl] at hx
      rw [← hx'] at hl0 hC
      have hx8 : x.length ≤ 8 := H8.out x (by
        rw [hx']
        unfold rd_L1
        rw [List.getD_eq_getElem?_getD, List.getElem?_eq_getElem (by rw [← HN.out]; simpa using hlt)]
        exact List.getElem_mem _)
      have HX := Aside0.mk hx'
      have HG := Aside0.mk hG
      have HE := Aside0.mk hE
      have HB := Aside0.mk hB
      have HLEN := Aside0.mk hlen
      have HC := Aside0.mk hC
      have HL0 := Aside0.mk hl0
      have H88 := Aside0.mk hx8
      clear hG hE hB hlen hC hl0 hx' hx8
      go_wp2_with (first | (go_at_call 36; refine (impl_bytCopy.calls A0 c0 x x wr HC.out HL0.out (if_pos (by have := H88.out; omega))).mono ?_; rintro e w1 ⟨v, rfl, hv, hb⟩; obtain ⟨A1, c1, rfl⟩ := Kd.R_slice hv; have HV := Aside0.mk hv; have HB1 := Aside0.mk hb; have HG1 := Aside0.mk (blk_below HG.out hb); clear hv hb) | (go_at_call 35; refine (put_any (w.heap.size + 1) us (A1, x.length, c1) (by have := HLEN.out; omega) _ HG1.out).mono ?_; rintro e w2 ⟨rfl, hb2, hk2, hg2⟩; have HB2 := Aside0.mk hb2; have HK2 := Aside0.mk hk2; have HG2 := Aside0.mk hg2; clear hb2 hk2 hg2))
      go_roundw
      case rel =>
        obtain ⟨T', hT⟩ := elems_step (s := (A1, x.length, c1)) HE.out (by rw [← HN.out]; exact hlt) (by rw [HX.out]; unfold rd_L1; simp) HB1.out HV.out HG1.out HK2.out HB.out.size
        exact ⟨k + 1, by omega, by go_num, ⟨_, T', HG2.out, hT, (HB.out.trans (HB1.out.mono HB.out.size)).trans (HB2.out.mono (by omega))⟩⟩
      case measure => simp [intOf]; omega
    · obtain rfl : k = n := by omega
      go_wp2
      go_ret
      exact ⟨rfl, HR.out⟩
end Go.Proofs.YtekeehhbalhfiaaBoxFill
