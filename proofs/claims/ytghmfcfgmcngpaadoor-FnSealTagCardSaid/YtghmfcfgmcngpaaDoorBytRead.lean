/- What bytRead answers: the number that the bytes tell, or why there is none. Conditions: the bytes can be read. -/
import Derived.Test.YtghmfcfgmcngpaaDoorSealTag
import Derived.Laws.Bits64b
set_option linter.unusedVariables false
set_option linter.unusedSimpArgs false
namespace Go.Proofs.YtghmfcfgmcngpaaDoorBytRead
open Go.RowKit Go.Proofs.YtghmfcfgmcngpaaDoorW.PrintWords Go.Proofs.YtghmfcfgmcngpaaDoorSeal Go.Proofs.YtghmfcfgmcngpaaDoorSealTag

theorem infoU8 : (Tryd.prog.info? 5).map (fun i => (i.zero, i.size, i.bytes)) = some (some (.int .u8 0), 1, 1) := by kernel_rfl
def takeV (l : List Int) : Int := l.foldl (fun n x => n * 256 + x) 0
theorem takeV_snoc (l : List Int) (x : Int) : takeV (l ++ [x]) = takeV l * 256 + x := by
  unfold takeV
  rw [List.foldl_append]
  rfl
theorem takeV_in (l : List Int) (h : isBytes l = true) : 0 ≤ takeV l ∧ takeV l < 256 ^ l.length := by
  have key : ∀ k, k ≤ l.length → 0 ≤ takeV (l.take k) ∧ takeV (l.take k) < 256 ^ k := by
    intro k
    induction k with
    | zero => intro _; exact ⟨by simp [takeV], by simp [takeV]⟩
    | succ k ih =>
      intro hk
      have hx := isBytes_at h k
      have := ih (by omega)
      rw [take_snoc l k (by omega), takeV_snoc, Int.pow_succ]
      omega
  have := key l.length (Nat.le_refl _)
  rwa [List.take_length] at this
theorem isBytes_take {l : List Int} (h : isBytes l = true) (k : Nat) : isBytes (l.take k) = true := List.all_eq_true.2 fun x hx => List.all_eq_true.1 h x (List.mem_of_mem_take hx)
theorem isBytes_drop {l : List Int} (h : isBytes l = true) (k : Nat) : isBytes (l.drop k) = true := List.all_eq_true.2 fun x hx => List.all_eq_true.1 h x (List.mem_of_mem_drop hx)
theorem or_i64 (n x : Int) (n0 : 0 ≤ n) (n1 : n ≤ 4294967295) (x0 : 0 ≤ x) (x1 : x ≤ 255) : bits .or .i64 (n * 256) x = n * 256 + x := by
  obtain ⟨a, rfl⟩ := Int.eq_ofNat_of_zero_le n0
  obtain ⟨b, rfl⟩ := Int.eq_ofNat_of_zero_le x0
  have e : ((a : Int) * 256) = ((a * 256 : Nat) : Int) := by omega
  rw [e]
  have ha' : (a * 256) % 2 ^ IntKind.i64.bits = a * 256 := Nat.mod_eq_of_lt (Nat.lt_of_lt_of_le (show a * 256 < 2 ^ 62 by omega) (by decide))
  have hb' : b % 2 ^ IntKind.i64.bits = b := Nat.mod_eq_of_lt (Nat.lt_of_lt_of_le (show b < 2 ^ 62 by omega) (by decide))
  simp only [Go.bits, BitVec.ofInt_natCast, BitVec.toNat_or, BitVec.toNat_ofNat, ha', hb', IntKind.wrap_i64]
  have h : a * 256 ||| b = a * 256 + b := by
    have := Nat.shiftLeft_add_eq_or_of_lt (i := 8) (b := b) (by omega) a
    rw [Nat.shiftLeft_eq] at this
    exact this.symm
  rw [h]
  omega

set_option maxHeartbeats 1000000 in
theorem read_size (A : Option Addr) (n c : Nat) (a s : Int) (w : World) (h : s < 1 ∨ 4 < s) :
    Calls Tryd.prog 38 #[.slice A n c, .int .i64 a, .int .i64 s] w fun e w' => e = .returned (.tuple #[.int .i64 0, .iface 55 (.agg #[.int .i64 1])]) ∧ w = w' := by
  rcases h with h | h
  · go_enter Tryd.func38, Tryd.ntmps38
    go_wp2
    go_ret2
    exact ⟨rfl, rfl⟩
  · go_enter Tryd.func38, Tryd.ntmps38
    go_wp2
    go_ret2
    exact ⟨rfl, rfl⟩
set_option maxHeartbeats 1000000 in
theorem read_place (A : Option Addr) (n c : Nat) (a s : Int) (w : World) (h0 : 1 ≤ s) (h1 : s ≤ 4) (hn : (n : Int) ≤ 9223372036854775807) (h : a < 0 ∨ (n : Int) - s < a) :
    Calls Tryd.prog 38 #[.slice A n c, .int .i64 a, .int .i64 s] w fun e w' => e = .returned (.tuple #[.int .i64 0, .iface 55 (.agg #[.int .i64 2])]) ∧ w = w' := by
  rcases h with h | h
  · go_enter Tryd.func38, Tryd.ntmps38
    go_wp2
    go_ret2
    exact ⟨rfl, rfl⟩
  · go_enter Tryd.func38, Tryd.ntmps38
    go_wp2
    all_goals go_ret2
    all_goals exact ⟨rfl, rfl⟩
set_option maxRecDepth 100000 in
set_option maxHeartbeats 2000000 in
theorem read_good (A : Option Addr) (c : Nat) (l : List Int) (a s : Nat) (w : World) (hA : Kd.C (Kd.int .u8) w A l.length l) (hc : l.length ≤ c) (hb : isBytes l = true) (h0 : 1 ≤ s) (h1 : s ≤ 4) (h : a + s ≤ l.length) :
    Calls Tryd.prog 38 #[.slice A l.length c, .int .i64 (a : Int), .int .i64 (s : Int)] w fun e w' => e = .returned (.tuple #[.int .i64 (takeV ((l.take (a + s)).drop a)), .nilIface]) ∧ w = w' := by
  obtain ⟨i0, hi, hz0, hz1, hz2⟩ := info_parts infoU8
  have hsl := cut_mid (P := Tryd.prog) 22 5 .i64 .i64 Tryd.underlying22 hi 1 hz1 A l.length c (a : Int) ((a : Int) + (s : Int)) (by omega) (by omega) (by omega) hc
  have hC := Kd.C_mid (lo := a) (hi := a + s) hA (by omega) h hc
  have esz : (Kd.int .u8).sz = 1 := rfl
  rw [esz] at hC
  have e1 : ((a : Int) + (s : Int)).toNat - ((a : Int)).toNat = s := by omega
  rw [e1, Int.toNat_natCast] at hsl
  have hLB : isBytes ((l.take (a + s)).drop a) = true := isBytes_drop (isBytes_take hb _) _
  have hLl : ((l.take (a + s)).drop a).length = s := by rw [List.length_drop, List.length_take]; omega
  have hm := hA.2.1
  obtain ⟨L, hL⟩ : ∃ L, (l.take (a + s)).drop a = L := ⟨_, rfl⟩
  obtain ⟨A', hA'⟩ : ∃ A', (if c = a then A else A.map (·.add (a * 1))) = A' := ⟨_, rfl⟩
  rw [hL] at hC hLB hLl ⊢
  rw [hA'] at hC hsl
  have HC := Aside0.mk hC
  have HLB := Aside0.mk hLB
  have HLL := Aside0.mk hLl
  obtain ⟨n, hn⟩ : ∃ n, n = l.length := ⟨_, rfl⟩
  rw [← hn] at hsl h hm ⊢
  have hmi : (n : Int) ≤ 9223372036854775807 := by omega
  have hpl : (a : Int) ≤ (n : Int) - (s : Int) := by omega
  obtain ⟨R, hR⟩ : ∃ R, takeV L = R := ⟨_, rfl⟩
  rw [hR]
  have HR := Aside0.mk hR
  clear hA hc hb hC hLB hLl hL hA' hn hR hm hi hz0 hz1 hz2 e1 esz
  go_enter Tryd.func38, Tryd.ntmps38
  go_wp2
  go_loop [8, 38] (fun v i => ∃ k : Nat, k ≤ s ∧ i = .int .i64 k ∧ v = .int .i64 (takeV (L.take k))) (fun _ i => s - (intOf i).toNat)
  case atStart => exact ⟨0, Nat.zero_le _, rfl, rfl⟩
  case round =>
    obtain ⟨k, hk, rfl, rfl⟩ := hrel
    by_cases hlt : k < s
    · obtain ⟨ad, hA1, hcell⟩ := read_at (l := L) HC.out (by rw [HLL.out]; omega)
      subst hA1
      have hcell' := hcell k (by rw [HLL.out]; exact hlt)
      have hx := isBytes_at HLB.out k
      have hv := takeV_in (L.take k) (isBytes_take HLB.out k)
      have hlk : (L.take k).length = k := by rw [List.length_take, HLL.out]; omega
      rw [hlk] at hv
      have hv2 : takeV (L.take k) ≤ 16777215 := by
        have : (256 : Int) ^ k ≤ 16777216 := by
          obtain rfl | rfl | rfl | rfl : k = 0 ∨ k = 1 ∨ k = 2 ∨ k = 3 := by omega
          all_goals decide
        omega
      have HS := Aside0.mk (show takeV (L.take (k + 1)) = takeV (L.take k) * 256 + L.getD k 0 by rw [take_snoc L k (by rw [HLL.out]; exact hlt), takeV_snoc])
      generalize L.getD k 0 = x at *
      obtain ⟨v, hv0⟩ : ∃ v, takeV (L.take k) = v := ⟨_, rfl⟩
      rw [hv0] at hv hv2 HS ⊢
      obtain ⟨v0, _⟩ := hv
      obtain ⟨x0, x1⟩ := hx
      have HOR := Aside0.mk (or_i64 v x v0 (by omega) x0 x1)
      clear hcell hv0 hlk
      go_wp2
      go_round
      case rel => exact ⟨k + 1, by omega, by go_num, by rw [HS.out, ← HOR.out]⟩
      case measure => simp [intOf]; omega
    · obtain rfl : k = s := by omega
      have e : takeV (L.take k) = R := by rw [← HR.out, List.take_of_length_le (by rw [HLL.out]; omega)]
      rw [e]
      go_wp2
      go_ret2
      exact ⟨rfl, rfl⟩
end Go.Proofs.YtghmfcfgmcngpaaDoorBytRead
