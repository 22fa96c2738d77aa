/- What sealWord.mix, sealFold and SealKey answer: one number mixed behind the other. Conditions: the list of numbers can be read, its numbers are small. -/
import Derived.Test.YtghmfcfgmcngpaaDoorProg
import Derived.Test.YtghmfcfgmcngpaaDoorWMore
import Derived.WalkKit
set_option linter.unusedVariables false
set_option linter.unusedSimpArgs false
namespace Go.Proofs.YtghmfcfgmcngpaaDoorSeal
open Go.RowKit Go.Proofs.YtghmfcfgmcngpaaDoorW.PrintWords

def mixZ (x y : Int) : Int :=
  bits .xor .u32 ((bits .xor .u32 ((bits .xor .u32 x y * 69069 + 1) % 4294967296) ((bits .xor .u32 x y * 69069 + 1) % 4294967296 / 65536) * 40503 + y + 7) % 4294967296)
    ((bits .xor .u32 ((bits .xor .u32 x y * 69069 + 1) % 4294967296) ((bits .xor .u32 x y * 69069 + 1) % 4294967296 / 65536) * 40503 + y + 7) % 4294967296 / 8192)
theorem bits_u32 (a b : Int) : 0 ≤ bits .xor .u32 a b ∧ bits .xor .u32 a b ≤ 4294967295 := by
  unfold bits
  simp only [IntKind.wrap_u32]
  omega
theorem mixZ_in (x y : Int) : 0 ≤ mixZ x y ∧ mixZ x y ≤ 4294967295 := bits_u32 _ _
theorem mix_any (x y : Int) (w : World) (hx0 : 0 ≤ x) (hx1 : x ≤ 4294967295) (hy0 : 0 ≤ y) (hy1 : y ≤ 1000000) : Calls Tryd.prog 41 #[.int .u32 x, .int .i64 y] w fun e w' => e = .returned (.int .u32 (mixZ x y)) ∧ w = w' := by
  go_enter Tryd.func41, Tryd.ntmps41
  go_wp2
  go_ret
  exact ⟨rfl, rfl⟩

def foldZ (x : Int) (l : List Int) : Int := l.foldl mixZ x
theorem foldZ_in (l : List Int) (x : Int) (h0 : 0 ≤ x) (h1 : x ≤ 4294967295) : 0 ≤ foldZ x l ∧ foldZ x l ≤ 4294967295 := by
  induction l generalizing x with
  | nil => exact ⟨h0, h1⟩
  | cons y l ih => exact ih _ (mixZ_in _ _).1 (mixZ_in _ _).2
theorem foldZ_snoc (x : Int) (l : List Int) (y : Int) : foldZ x (l ++ [y]) = mixZ (foldZ x l) y := by
  unfold foldZ
  rw [List.foldl_append]
  rfl
theorem read_at {w : World} {k : IntKind} {A : Option Addr} {l : List Int} (hr : Kd.C (Kd.int k) w A l.length l) (h0 : 0 < l.length) : ∃ ad, A = some ad ∧ ∀ j, j < l.length → w.cell? (ad.add j) = some (.int k (l.getD j 0)) := by
  obtain ⟨ad, hA, hc⟩ := hr.2.2 h0
  refine ⟨ad, hA, fun j hj => ?_⟩
  obtain ⟨c, _, hK, hcell⟩ := hc j l[j] (List.getElem?_eq_getElem hj)
  have hK' : c = [Value.int k l[j]] := hK
  subst hK'
  have := hcell 0 _ rfl
  have e : (Kd.int k).sz = 1 := rfl
  rw [e, Nat.mul_one, Nat.add_zero] at this
  rw [this]
  simp [hj]
/-- What stands in x when k numbers are mixed. -/
def sofar (x : Int) (l : List Int) (k : Nat) : Int := if k = 0 then 0 else foldZ x (l.take k)

set_option maxHeartbeats 1000000 in
theorem fold_any (x : Int) (A : Option Addr) (c : Nat) (l : List Int) (w : World) (hx0 : 0 ≤ x) (hx1 : x ≤ 4294967295) (hr : Kd.C (Kd.int .i64) w A l.length l) (hm : l.length ≤ 9223372036854775807) (h0 : 0 < l.length) (hy : ∀ y ∈ l, 0 ≤ y ∧ y ≤ 1000000) :
    Calls Tryd.prog 40 #[.func (.func 41) #[.int .u32 x] #[], .slice A l.length c] w fun e w' => e = .returned (.int .u32 (foldZ x l)) ∧ w = w' := by
  have hmf : ∀ (fn : Fn) (first cap : Array Value) (w : World), (Instr.makeFunc fn first cap).run Tryd.prog w = .ok (.func fn first cap) w := fun _ _ _ _ => rfl
  obtain ⟨ad, rfl, hc⟩ := read_at hr h0
  have HC := Aside0.mk hc
  have HY := Aside0.mk hy
  have H0 := Aside0.mk h0
  obtain ⟨n, hn⟩ : ∃ n, n = l.length := ⟨_, rfl⟩
  rw [← hn] at hm ⊢
  have HN := Aside0.mk hn
  have HF : Aside0 (∀ k, 0 ≤ foldZ x (l.take k) ∧ foldZ x (l.take k) ≤ 4294967295) := ⟨fun k => foldZ_in _ _ hx0 hx1⟩
  clear hr hc hy h0 hn
  go_enter Tryd.func40, Tryd.ntmps40
  go_wp2
  go_loop [0, 5, 10] (fun m s i => ∃ k : Nat, k ≤ n ∧ i = .int .i64 k ∧ m = .func (.func 41) #[.int .u32 (foldZ x (l.take k))] #[] ∧ s = .int .u32 (sofar x l k)) (fun _ _ i => n - (intOf i).toNat)
  case atStart => exact ⟨0, Nat.zero_le _, rfl, rfl, rfl⟩
  case round =>
    obtain ⟨k, hk, rfl, rfl, rfl⟩ := hrel
    by_cases hlt : k < n
    · have hcell := HC.out k (by rw [← HN.out]; exact hlt)
      have hyk := HY.out (l.getD k 0) (by
        have hlt' : k < l.length := by rw [← HN.out]; exact hlt
        rw [List.getD_eq_getElem?_getD, List.getElem?_eq_getElem hlt']
        exact List.getElem_mem hlt')
      have hf := HF.out k
      have HS : Aside0 (foldZ x (l.take (k + 1)) = mixZ (foldZ x (l.take k)) (l.getD k 0)) := ⟨by
        have hlt' : k < l.length := by rw [← HN.out]; exact hlt
        rw [List.take_succ_eq_append_getElem hlt', foldZ_snoc, List.getD_eq_getElem?_getD, List.getElem?_eq_getElem hlt']
        rfl⟩
      generalize l.getD k 0 = y at *
      generalize hz : foldZ x (l.take k) = z at *
      have HZ := Aside0.mk hz
      obtain ⟨y0, y1⟩ := hyk
      obtain ⟨z0, z1⟩ := hf
      clear hz
      go_wp2_with (go_at_call 41; refine (mix_any z y _ z0 z1 y0 y1).mono ?_; rintro e w' ⟨rfl, rfl⟩)
      go_round
      case rel => exact ⟨k + 1, by omega, by go_num, by rw [HS.out], by unfold sofar; rw [if_neg (by omega), HS.out]⟩
      case measure => simp [intOf]; omega
    · obtain rfl : k = n := by omega
      have e : sofar x l k = foldZ x l := by
        unfold sofar
        have := H0.out
        have := HN.out
        rw [if_neg (by omega), List.take_of_length_le (by omega)]
      have HE := Aside0.mk e
      clear e
      go_wp2
      go_ret
      exact ⟨by rw [← HE.out]; rfl, rfl⟩
end Go.Proofs.YtghmfcfgmcngpaaDoorSeal
