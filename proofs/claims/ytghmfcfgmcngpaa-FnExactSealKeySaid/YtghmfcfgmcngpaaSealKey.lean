/- What SealKey answers: the six numbers mixed one behind the other, or 0. Conditions: none. -/
import Derived.Test.YtghmfcfgmcngpaaSeal
set_option linter.unusedVariables false
set_option linter.unusedSimpArgs false
namespace Go.Proofs.YtghmfcfgmcngpaaSealKey
open Go.RowKit Go.Proofs.YtghmfcfgmcngpaaW.PrintWords Go.Proofs.YtghmfcfgmcngpaaSeal

def okK (s f t b p e : Int) : Bool := decide ((0 ≤ s ∧ s ≤ 4294967295) ∧ (0 ≤ f ∧ f ≤ 255) ∧ (0 ≤ t ∧ t ≤ 255) ∧ (0 ≤ e ∧ e ≤ 255) ∧ (0 ≤ b ∧ b ≤ 65535) ∧ (0 ≤ p ∧ p ≤ 65535))
def keyZ (s f t b p e : Int) : Int := if okK s f t b p e = true then foldZ s [1 + f, 300 + t, 1000 + b, 70000 + p, 140000 + e, 9] else 0
theorem keyZ_bad {s f t b p e : Int} (h : ¬ ((0 ≤ s ∧ s ≤ 4294967295) ∧ (0 ≤ f ∧ f ≤ 255) ∧ (0 ≤ t ∧ t ≤ 255) ∧ (0 ≤ e ∧ e ≤ 255) ∧ (0 ≤ b ∧ b ≤ 65535) ∧ (0 ≤ p ∧ p ≤ 65535))) : keyZ s f t b p e = 0 := by
  unfold keyZ okK
  rw [decide_eq_false h]
  rfl
theorem keyZ_good {s f t b p e : Int} (h : (0 ≤ s ∧ s ≤ 4294967295) ∧ (0 ≤ f ∧ f ≤ 255) ∧ (0 ≤ t ∧ t ≤ 255) ∧ (0 ≤ e ∧ e ≤ 255) ∧ (0 ≤ b ∧ b ≤ 65535) ∧ (0 ≤ p ∧ p ≤ 65535)) : keyZ s f t b p e = foldZ s [1 + f, 300 + t, 1000 + b, 70000 + p, 140000 + e, 9] := by
  unfold keyZ okK
  rw [decide_eq_true h]
  rfl
theorem ret_int {k : IntKind} {a b : Int} (h : a = b) : Ending.returned (.int k a) = .returned (.int k b) := by rw [h]
theorem lit_reads {W : World} {ns : List Int} {t : TypeId} (hm : ns.length ≤ 9223372036854775807) : Kd.C (Kd.int .i64) (W.alloc (.cells (nums .i64 ns).toArray t)) (some ⟨W.heap.size, 0, none⟩) ns.length ns := by
  refine ⟨rfl, hm, fun _ => ⟨_, rfl, fun j p hj => ⟨[.int .i64 p], rfl, rfl, fun i u hu => ?_⟩⟩⟩
  cases i with
  | succ i => simp at hu
  | zero =>
    obtain rfl : Value.int .i64 p = u := by simpa using hu
    have e : (Kd.int .i64).sz = 1 := rfl
    rw [e, Nat.mul_one, Nat.add_zero]
    have ha : (Addr.add ⟨W.heap.size, 0, none⟩ j) = ⟨W.heap.size, j, none⟩ := by unfold Addr.add; by_cases h : j = 0 <;> simp [h]
    rw [ha, blk_cell (heap_alloc_new W _) j]
    simp [nums, hj]

set_option maxRecDepth 100000 in
set_option maxHeartbeats 2000000 in
theorem key_any (s f t b p e : Int) (w : World) :
    Calls Try.prog 9 #[.int .i64 s, .int .i64 f, .int .i64 t, .int .i64 b, .int .i64 p, .int .i64 e] w fun en w' => en = .returned (.int .i64 (keyZ s f t b p e)) ∧ Below w.heap.size w w' := by
  have hmf : ∀ (fn : Fn) (first cap : Array Value) (w : World), (Instr.makeFunc fn first cap).run Try.prog w = .ok (.func fn first cap) w := fun _ _ _ _ => rfl
  obtain ⟨R, hR⟩ : ∃ R, keyZ s f t b p e = R := ⟨_, rfl⟩
  rw [hR]
  have HR := Aside0.mk hR
  clear hR
  by_cases hs : 0 ≤ s ∧ s ≤ 4294967295
  · obtain ⟨s0, s1⟩ := hs
    have hi0 : ∀ W : World, (Instr.index 38 (.agg #[.int .i64 f, .int .i64 t, .int .i64 e]) (.int .i64 0)).run Try.prog W = .ok (.int .i64 f) W := fun _ => by kernel_rfl
    have hi1 : ∀ W : World, (Instr.index 38 (.agg #[.int .i64 f, .int .i64 t, .int .i64 e]) (.int .i64 1)).run Try.prog W = .ok (.int .i64 t) W := fun _ => by kernel_rfl
    have hi2 : ∀ W : World, (Instr.index 38 (.agg #[.int .i64 f, .int .i64 t, .int .i64 e]) (.int .i64 2)).run Try.prog W = .ok (.int .i64 e) W := fun _ => by kernel_rfl
    have hj0 : ∀ W : World, (Instr.index 39 (.agg #[.int .i64 b, .int .i64 p]) (.int .i64 0)).run Try.prog W = .ok (.int .i64 b) W := fun _ => by kernel_rfl
    have hj1 : ∀ W : World, (Instr.index 39 (.agg #[.int .i64 b, .int .i64 p]) (.int .i64 1)).run Try.prog W = .ok (.int .i64 p) W := fun _ => by kernel_rfl
    go_enter Try.func9, Try.ntmps9
    go_wp2
    go_loop [27] (fun i => i = .int .i64 0 ∨ (i = .int .i64 1 ∧ Aside0 (0 ≤ f ∧ f ≤ 255)) ∨ (i = .int .i64 2 ∧ Aside0 (0 ≤ f ∧ f ≤ 255) ∧ Aside0 (0 ≤ t ∧ t ≤ 255)) ∨ (i = .int .i64 3 ∧ Aside0 (0 ≤ f ∧ f ≤ 255) ∧ Aside0 (0 ≤ t ∧ t ≤ 255) ∧ Aside0 (0 ≤ e ∧ e ≤ 255))) (fun i => 3 - (intOf i).toNat)
    case atStart => exact Or.inl rfl
    case round =>
      rcases hrel with rfl | ⟨rfl, H1⟩ | ⟨rfl, H1, H2⟩ | ⟨rfl, H1, H2, H3⟩
      · by_cases hf : 0 ≤ f ∧ f ≤ 255
        · have HF := Aside0.mk hf
          obtain ⟨f0, f1⟩ := hf
          go_wp2
          go_round
          case rel => exact Or.inr (Or.inl ⟨rfl, HF⟩)
          case measure => decide
        · have hz := HR.out.symm.trans (keyZ_bad (fun h => hf h.2.1))
          have HZ := Aside0.mk hz
          clear hz
          by_cases hl : f < 0
          · clear hf
            go_wp2
            go_ret
            exact ⟨by rw [HZ.out]; rfl, Below.refl _ _⟩
          · have hg : 255 < f := by omega
            clear hf
            go_wp2
            go_ret
            exact ⟨by rw [HZ.out]; rfl, Below.refl _ _⟩
      · by_cases hf : 0 ≤ t ∧ t ≤ 255
        · have HF := Aside0.mk hf
          obtain ⟨f0, f1⟩ := hf
          go_wp2
          go_round
          case rel => exact Or.inr (Or.inr (Or.inl ⟨rfl, H1, HF⟩))
          case measure => decide
        · have hz := HR.out.symm.trans (keyZ_bad (fun h => hf h.2.2.1))
          have HZ := Aside0.mk hz
          clear hz
          by_cases hl : t < 0
          · clear hf
            go_wp2
            go_ret
            exact ⟨by rw [HZ.out]; rfl, Below.refl _ _⟩
          · have hg : 255 < t := by omega
            clear hf
            go_wp2
            go_ret
            exact ⟨by rw [HZ.out]; rfl, Below.refl _ _⟩
      · by_cases hf : 0 ≤ e ∧ e ≤ 255
        · have HF := Aside0.mk hf
          obtain ⟨f0, f1⟩ := hf
          go_wp2
          go_round
          case rel => exact Or.inr (Or.inr (Or.inr ⟨rfl, H1, H2, HF⟩))
          case measure => decide
        · have hz := HR.out.symm.trans (keyZ_bad (fun h => hf h.2.2.2.1))
          have HZ := Aside0.mk hz
          clear hz
          by_cases hl : e < 0
          · clear hf
            go_wp2
            go_ret
            exact ⟨by rw [HZ.out]; rfl, Below.refl _ _⟩
          · have hg : 255 < e := by omega
            clear hf
            go_wp2
            go_ret
            exact ⟨by rw [HZ.out]; rfl, Below.refl _ _⟩
      · go_wp2
        go_loop [40] (fun i => i = .int .i64 0 ∨ (i = .int .i64 1 ∧ Aside0 (0 ≤ b ∧ b ≤ 65535)) ∨ (i = .int .i64 2 ∧ Aside0 (0 ≤ b ∧ b ≤ 65535) ∧ Aside0 (0 ≤ p ∧ p ≤ 65535))) (fun i => 2 - (intOf i).toNat)
        case atStart => exact Or.inl rfl
        case round =>
          rcases hrel with rfl | ⟨rfl, H4⟩ | ⟨rfl, H4, H5⟩
          · by_cases hf : 0 ≤ b ∧ b ≤ 65535
            · have HF := Aside0.mk hf
              obtain ⟨f0, f1⟩ := hf
              go_wp2
              go_round
              case rel => exact Or.inr (Or.inl ⟨rfl, HF⟩)
              case measure => decide
            · have hz := HR.out.symm.trans (keyZ_bad (fun h => hf h.2.2.2.2.1))
              have HZ := Aside0.mk hz
              clear hz
              by_cases hl : b < 0
              · clear hf
                go_wp2
                go_ret
                exact ⟨by rw [HZ.out]; rfl, Below.refl _ _⟩
              · have hg : 65535 < b := by omega
                clear hf
                go_wp2
                go_ret
                exact ⟨by rw [HZ.out]; rfl, Below.refl _ _⟩
          · by_cases hf : 0 ≤ p ∧ p ≤ 65535
            · have HF := Aside0.mk hf
              obtain ⟨f0, f1⟩ := hf
              go_wp2
              go_round
              case rel => exact Or.inr (Or.inr ⟨rfl, H4, HF⟩)
              case measure => decide
            · have hz := HR.out.symm.trans (keyZ_bad (fun h => hf h.2.2.2.2.2))
              have HZ := Aside0.mk hz
              clear hz
              by_cases hl : p < 0
              · clear hf
                go_wp2
                go_ret
                exact ⟨by rw [HZ.out]; rfl, Below.refl _ _⟩
              · have hg : 65535 < p := by omega
                clear hf
                go_wp2
                go_ret
                exact ⟨by rw [HZ.out]; rfl, Below.refl _ _⟩
          · have hz := HR.out.symm.trans (keyZ_good ⟨⟨s0, s1⟩, H1.out, H2.out, H3.out, H4.out, H5.out⟩)
            have HZ := Aside0.mk hz
            clear hz
            obtain ⟨f0, f1⟩ := H1.out
            obtain ⟨t0, t1⟩ := H2.out
            obtain ⟨e0, e1⟩ := H3.out
            obtain ⟨b0, b1⟩ := H4.out
            obtain ⟨p0, p1⟩ := H5.out
            have hcall := fold_any s (some ⟨w.heap.size, 0, none⟩) 6 [1 + f, 300 + t, 1000 + b, 70000 + p, 140000 + e, 9] (w.alloc (.cells #[.int .i64 (1 + f), .int .i64 (300 + t), .int .i64 (1000 + b), .int .i64 (70000 + p), .int .i64 (140000 + e), .int .i64 9] 3)) s0 s1 (lit_reads (ns := [1 + f, 300 + t, 1000 + b, 70000 + p, 140000 + e, 9]) (by simp)) (by simp) (by simp) (by simp; omega)
            have hfz := foldZ_in [1 + f, 300 + t, 1000 + b, 70000 + p, 140000 + e, 9] s s0 s1
            obtain ⟨F, hF⟩ : ∃ F, foldZ s [1 + f, 300 + t, 1000 + b, 70000 + p, 140000 + e, 9] = F := ⟨_, rfl⟩
            rw [hF] at hcall hfz
            have HF := Aside0.mk hF
            have HQ := Aside0.mk hcall
            obtain ⟨z0, z1⟩ := hfz
            clear hF hcall
            go_wp2_with (go_at_call 24; refine HQ.out.mono ?_; rintro e w' ⟨rfl, rfl⟩)
            go_ret
            exact ⟨by rw [HZ.out, HF.out]; rfl, (Below.refl _ _).alloc (Nat.le_refl _) _⟩
  · have hz := HR.out.symm.trans (keyZ_bad (fun h => hs h.1))
    have HZ := Aside0.mk hz
    clear hz
    by_cases hl : s < 0
    · clear hs
      go_enter Try.func9, Try.ntmps9
      go_wp2
      go_ret
      exact ⟨by rw [HZ.out]; rfl, Below.refl _ _⟩
    · have hg : 4294967295 < s := by omega
      clear hs
      go_enter Try.func9, Try.ntmps9
      go_wp2
      go_ret
      exact ⟨by rw [HZ.out]; rfl, Below.refl _ _⟩
end Go.Proofs.YtghmfcfgmcngpaaSealKey
