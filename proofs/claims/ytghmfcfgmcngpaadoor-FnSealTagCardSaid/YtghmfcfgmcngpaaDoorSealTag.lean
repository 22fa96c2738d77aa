/- What sealMay and SealTag answer: the sum of a head and a body under a key, or 0. Conditions: the bytes can be read. -/
import Derived.Test.YtghmfcfgmcngpaaDoorSeal
set_option linter.unusedVariables false
set_option linter.unusedSimpArgs false
namespace Go.Proofs.YtghmfcfgmcngpaaDoorSealTag
open Go.RowKit Go.Proofs.YtghmfcfgmcngpaaDoorW.PrintWords Go.Proofs.YtghmfcfgmcngpaaDoorSeal

theorem ret_bool {a b : Bool} (h : a = b) : (Ending.returned (.bool a)) = .returned (.bool b) := by rw [h]
def mayB (key seq : Int) (n m : Nat) : Bool := decide (((0 ≤ key ∧ key ≤ 4294967295) ∧ (0 ≤ seq ∧ seq ≤ 65535)) ∧ n ≤ 64 ∧ m ≤ 64)
set_option maxHeartbeats 1000000 in
theorem may_any (key seq : Int) (A B : Option Addr) (n m c d : Nat) (w : World) (hn : n ≤ 9223372036854775807) (hm : m ≤ 9223372036854775807) :
    Calls Tryd.prog 29 #[.int .i64 key, .int .i64 seq, .slice A n c, .slice B m d] w fun e w' => e = .returned (.bool (mayB key seq n m)) ∧ w = w' := by
  go_enter Tryd.func29, Tryd.ntmps29
  go_wp2
  all_goals go_ret
  all_goals exact ⟨ret_bool (by unfold mayB; first | (symm; rw [decide_eq_false_iff_not]; omega) | (rw [decide_eq_decide]; omega)), rfl⟩

def isBytes (l : List Int) : Bool := l.all fun x => decide (0 ≤ x ∧ x ≤ 255)
theorem isBytes_at {l : List Int} (h : isBytes l = true) (k : Nat) : 0 ≤ l.getD k 0 ∧ l.getD k 0 ≤ 255 := by
  rw [List.getD_eq_getElem?_getD]
  by_cases hk : k < l.length
  · rw [List.getElem?_eq_getElem hk]
    exact of_decide_eq_true (List.all_eq_true.1 h _ (List.getElem_mem hk))
  · rw [List.getElem?_eq_none (by omega)]
    exact ⟨by decide, by decide⟩
theorem take_snoc (l : List Int) (k : Nat) (h : k < l.length) : l.take (k + 1) = l.take k ++ [l.getD k 0] := by
  rw [List.take_succ_eq_append_getElem h, List.getD_eq_getElem?_getD, List.getElem?_eq_getElem h]
  rfl
def heads (seq : Int) (head : List Int) (k : Nat) : List Int := [300000 + seq, 11, 400000 + (head.length : Int)] ++ (head.take k).map (1 + ·)
def alls (seq : Int) (head coded : List Int) (k : Nat) : List Int := heads seq head head.length ++ [500000 + (coded.length : Int)] ++ (coded.take k).map (600 + ·)
theorem heads_succ (seq : Int) (head : List Int) (k : Nat) (h : k < head.length) : heads seq head (k + 1) = heads seq head k ++ [1 + head.getD k 0] := by
  unfold heads
  rw [take_snoc _ _ h, List.map_append, List.append_assoc]
  rfl
theorem alls_succ (seq : Int) (head coded : List Int) (k : Nat) (h : k < coded.length) : alls seq head coded (k + 1) = alls seq head coded k ++ [600 + coded.getD k 0] := by
  unfold alls
  rw [take_snoc _ _ h, List.map_append]
  simp only [List.append_assoc]
  rfl
theorem alls_zero (seq : Int) (head coded : List Int) : alls seq head coded 0 = heads seq head head.length ++ [500000 + (coded.length : Int)] := by
  unfold alls
  simp
theorem heads_len (seq : Int) (head : List Int) (k : Nat) : (heads seq head k).length ≤ 3 + head.length := by
  unfold heads
  simp
  omega
theorem alls_len (seq : Int) (head coded : List Int) (k : Nat) : 0 < (alls seq head coded k).length ∧ (alls seq head coded k).length ≤ 4 + head.length + coded.length := by
  unfold alls heads
  simp
  omega
theorem alls_in (seq : Int) (head coded : List Int) (hs : 0 ≤ seq ∧ seq ≤ 65535) (hl : head.length ≤ 64) (hc : coded.length ≤ 64) (h1 : isBytes head = true) (h2 : isBytes coded = true) (k : Nat) : ∀ y ∈ alls seq head coded k, 0 ≤ y ∧ y ≤ 1000000 := by
  have a1 : ∀ x ∈ head, 0 ≤ x ∧ x ≤ 255 := fun x hx => of_decide_eq_true (List.all_eq_true.1 h1 x hx)
  have a2 : ∀ x ∈ coded, 0 ≤ x ∧ x ≤ 255 := fun x hx => of_decide_eq_true (List.all_eq_true.1 h2 x hx)
  intro y hy
  unfold alls heads at hy
  simp only [List.mem_append, List.mem_map, List.mem_cons, List.not_mem_nil, or_false] at hy
  rcases hy with ((h3 | ⟨x, hx, rfl⟩) | rfl) | ⟨x, hx, rfl⟩
  · omega
  · have := a1 x (List.mem_of_mem_take hx); omega
  · omega
  · have := a2 x (List.mem_of_mem_take hx); omega
def tagZ (key seq : Int) (head coded : List Int) : Int := if mayB key seq head.length coded.length = true then foldZ key (alls seq head coded coded.length) else 0
theorem tagZ_bad {key seq : Int} {head coded : List Int} (h : mayB key seq head.length coded.length = false) : tagZ key seq head coded = 0 := by
  unfold tagZ
  rw [h]
  rfl
theorem tagZ_good {key seq : Int} {head coded : List Int} (h : mayB key seq head.length coded.length = true) : tagZ key seq head coded = foldZ key (alls seq head coded coded.length) := by
  unfold tagZ
  rw [if_pos h]
theorem info3 : (Tryd.prog.info? 3).map (fun i => (i.zero, i.size, i.bytes)) = some (some (.int .i64 0), 1, 8) := by kernel_rfl

set_option maxRecDepth 100000 in
set_option maxHeartbeats 4000000 in
theorem tag_good (key seq : Int) (A B : Option Addr) (c d : Nat) (head coded : List Int) (w : World) (hA : Kd.C (Kd.int .u8) w A head.length head) (hB : Kd.C (Kd.int .u8) w B coded.length coded)
    (h1 : isBytes head = true) (h2 : isBytes coded = true) (hmay : mayB key seq head.length coded.length = true) :
    Calls Tryd.prog 17 #[.int .i64 key, .int .i64 seq, .slice A head.length c, .slice B coded.length d] w fun e w' => e = .returned (.int .i64 (foldZ key (alls seq head coded coded.length))) ∧ Below w.heap.size w w' := by
  have hmf : ∀ (fn : Fn) (first cap : Array Value) (w : World), (Instr.makeFunc fn first cap).run Tryd.prog w = .ok (.func fn first cap) w := fun _ _ _ _ => rfl
  have hb := of_decide_eq_true hmay
  obtain ⟨⟨⟨k0, k1⟩, s0, s1⟩, n64, m64⟩ := hb
  have HIN := Aside0.mk (alls_in seq head coded ⟨s0, s1⟩ n64 m64 h1 h2)
  have HA := Aside0.mk hA
  have HB := Aside0.mk hB
  have H1 := Aside0.mk h1
  have H2 := Aside0.mk h2
  have hcall := may_any key seq A B head.length coded.length c d w (by omega) (by omega)
  rw [hmay] at hcall
  have HM := Aside0.mk hcall
  obtain ⟨n, hn⟩ : ∃ n, n = head.length := ⟨_, rfl⟩
  obtain ⟨m, hm⟩ : ∃ m, m = coded.length := ⟨_, rfl⟩
  rw [← hn] at n64 HM ⊢
  rw [← hm] at m64 HM
  have HN := Aside0.mk hn
  have HMM := Aside0.mk hm
  have HF := Aside0.mk (foldZ_in (alls seq head coded coded.length) key k0 k1)
  obtain ⟨R, hR⟩ : ∃ R, foldZ key (alls seq head coded coded.length) = R := ⟨_, rfl⟩
  rw [hR] at HF ⊢
  have HR := Aside0.mk hR
  rw [← hm]
  clear hA hB h1 h2 hmay hcall hn hm hR
  go_enter Tryd.func17, Tryd.ntmps17
  go_wp2_with (go_at_call 29; refine (HM.out).mono ?_; rintro e w' ⟨rfl, rfl⟩)
  go_loopw [9, 28] (fun v i wr => ∃ k : Nat, k ≤ n ∧ i = .int .i64 k ∧ Aside0 (Kd.R (Kd.int .i64) 3 wr w.heap.size (fun _ => True) v (heads seq head k)) ∧ Aside0 (Below w.heap.size w wr)) (fun _ i _ => n - (intOf i).toNat)
  case atStart =>
    refine ⟨0, Nat.zero_le _, rfl, ⟨?_⟩, ⟨(Below.refl _ _).alloc (Nat.le_refl _) _⟩⟩
    have h := World.ownsRow_lit (base := w.heap.size) (e := 3) (size := 1) w (nums .i64 (heads seq head 0)).toArray 3 (Nat.le_refl _) (by decide) (by simp [nums, heads])
    have e := HN.out
    have e2 : nums .i64 (heads seq head 0) = [.int .i64 (300000 + seq), .int .i64 11, .int .i64 (400000 + (n : Int))] := by simp [nums, heads, e]
    rw [e2] at h
    refine Kd.R_of_own ?_ (fun _ _ => trivial)
    show World.ownsRow _ w.heap.size 3 1 _ (heads seq head 0).length (nums .i64 (heads seq head 0))
    rw [e2]
    exact h
  case round =>
    obtain ⟨k, hk, rfl, HV, HW⟩ := hrel
    by_cases hlt : k < n
    · obtain ⟨ad, rfl, hc⟩ := read_at (Kd.C_below HA.out HW.out) (by rw [← HN.out]; omega)
      have hcell := hc k (by rw [← HN.out]; exact hlt)
      have hx := isBytes_at H1.out k
      have HS := Aside0.mk (heads_succ seq head k (by rw [← HN.out]; exact hlt))
      have HL := Aside0.mk (heads_len seq head k)
      generalize head.getD k 0 = x at *
      obtain ⟨x0, x1⟩ := hx
      clear hc
      go_wp2_with (at_builtin; refine Kd.R_append (Kd.int .i64) (w0 := w) w.heap.size rfl (.tmp 32) (.tmp 36) 58 3 (.int .i64 0) 8 rfl Tryd.underlying58 info3 rfl (by decide) (by omega) _ _ (1 + x) [.int .i64 (1 + x)] (fun _ => True) (fun _ => False) rfl rfl ?aP (fun _ hk => hk.elim) ?aF HV.out HW.out ?aS ?aL ?_)
      case aP => exact rfl
      case aF => exact fun _ _ => trivial
      case aS => exact HW.out.size
      case aL => have := HL.out; have := HN.out; omega
      intro v1 w1 hv1 hb1 hg1 hat1
      rw [← HS.out] at hv1
      have HV1 := Aside0.mk hv1
      have HB1 := Aside0.mk hb1
      clear hv1 hb1 hg1 hat1
      go_wp2
      go_roundw
      case rel => exact ⟨k + 1, by omega, by go_num, HV1, HB1⟩
      case measure => simp [intOf]; omega
    · obtain rfl : k = n := by omega
      have HL := Aside0.mk (heads_len seq head k)
      go_wp2_with (at_builtin; refine Kd.R_append (Kd.int .i64) (w0 := w) w.heap.size rfl (.tmp 39) (.tmp 43) 58 3 (.int .i64 0) 8 rfl Tryd.underlying58 info3 rfl (by decide) (by omega) _ _ (500000 + (m : Int)) [.int .i64 (500000 + (m : Int))] (fun _ => True) (fun _ => False) rfl rfl ?aP (fun _ hk => hk.elim) ?aF HV.out HW.out ?aS ?aL ?_)
      case aP => exact rfl
      case aF => exact fun _ _ => trivial
      case aS => exact HW.out.size
      case aL => have := HL.out; have := HN.out; omega
      intro v1 w1 hv1 hb1 hg1 hat1
      have e0 := alls_zero seq head coded
      rw [← HN.out, ← HMM.out] at e0
      rw [← e0] at hv1
      have HV1 := Aside0.mk hv1
      have HB1 := Aside0.mk hb1
      clear hv1 hb1 hg1 hat1 e0
      go_wp2
      go_loopw [9, 47] (fun v i wr => ∃ j : Nat, j ≤ m ∧ i = .int .i64 j ∧ Aside0 (Kd.R (Kd.int .i64) 3 wr w.heap.size (fun _ => True) v (alls seq head coded j)) ∧ Aside0 (Below w.heap.size w wr)) (fun _ i _ => m - (intOf i).toNat)
      case atStart => exact ⟨0, Nat.zero_le _, rfl, HV1, HB1⟩
      case round =>
        obtain ⟨j, hj, rfl, HV, HW⟩ := hrel
        by_cases hlt : j < m
        · obtain ⟨ad, rfl, hc⟩ := read_at (Kd.C_below HB.out HW.out) (by rw [← HMM.out]; omega)
          have hcell := hc j (by rw [← HMM.out]; exact hlt)
          have hx := isBytes_at H2.out j
          have HS := Aside0.mk (alls_succ seq head coded j (by rw [← HMM.out]; exact hlt))
          have HL := Aside0.mk (alls_len seq head coded j)
          generalize coded.getD j 0 = x at *
          obtain ⟨x0, x1⟩ := hx
          clear hc
          go_wp2_with (at_builtin; refine Kd.R_append (Kd.int .i64) (w0 := w) w.heap.size rfl (.tmp 51) (.tmp 55) 58 3 (.int .i64 0) 8 rfl Tryd.underlying58 info3 rfl (by decide) (by omega) _ _ (600 + x) [.int .i64 (600 + x)] (fun _ => True) (fun _ => False) rfl rfl ?aP (fun _ hk => hk.elim) ?aF HV.out HW.out ?aS ?aL ?_)
          case aP => exact rfl
          case aF => exact fun _ _ => trivial
          case aS => exact HW.out.size
          case aL => have := HL.out; have := HN.out; have := HMM.out; omega
          intro v1 w1 hv1 hb1 hg1 hat1
          rw [← HS.out] at hv1
          have HV1 := Aside0.mk hv1
          have HB1 := Aside0.mk hb1
          clear hv1 hb1 hg1 hat1
          go_wp2
          go_roundw
          case rel => exact ⟨j + 1, by omega, by go_num, HV1, HB1⟩
          case measure => simp [intOf]; omega
        · obtain rfl : j = m := by omega
          obtain ⟨A', c', rfl, _, hC⟩ := Kd.R_reads HV.out
          have HL := HIN.out j
          have hcall := fold_any key A' c' (alls seq head coded j) wr k0 k1 hC (by have := (alls_len seq head coded j).2; have := HN.out; have := HMM.out; omega) (alls_len seq head coded j).1 HL
          have hR := HR.out
          rw [← HMM.out] at hR
          rw [hR] at hcall
          have HQ := Aside0.mk hcall
          obtain ⟨r0, r1⟩ := HF.out
          clear hC hcall hR HL
          go_wp2_with (go_at_call 40; refine HQ.out.mono ?_; rintro e w' ⟨rfl, rfl⟩)
          go_ret
          exact ⟨rfl, HW.out⟩
theorem tag_any (key seq : Int) (A B : Option Addr) (c d : Nat) (head coded : List Int) (w : World) (hA : Kd.C (Kd.int .u8) w A head.length head) (hB : Kd.C (Kd.int .u8) w B coded.length coded) (r : Int)
    (h : (if isBytes head = true then if isBytes coded = true then some (tagZ key seq head coded) else none else none) = some r) :
    Calls Tryd.prog 17 #[.int .i64 key, .int .i64 seq, .slice A head.length c, .slice B coded.length d] w fun e w' => e = .returned (.int .i64 r) ∧ Below w.heap.size w w' := by
  by_cases h1 : isBytes head = true
  · by_cases h2 : isBytes coded = true
    · rw [if_pos h1, if_pos h2] at h
      obtain rfl := Option.some.inj h
      cases hmay : mayB key seq head.length coded.length
      · rw [tagZ_bad hmay]
        have hcall := may_any key seq A B head.length coded.length c d w hA.2.1 hB.2.1
        rw [hmay] at hcall
        have HM := Aside0.mk hcall
        generalize head.length = n at *
        generalize coded.length = m at *
        clear hA hB h1 h2 h hcall hmay
        go_enter Tryd.func17, Tryd.ntmps17
        go_wp2_with (go_at_call 29; refine (HM.out).mono ?_; rintro e w' ⟨rfl, rfl⟩)
        go_ret
        exact ⟨rfl, Below.refl _ _⟩
      · rw [tagZ_good hmay]
        exact tag_good key seq A B c d head coded w hA hB h1 h2 hmay
    · rw [if_pos h1, if_neg h2] at h
      exact absurd h (by simp)
  · rw [if_neg h1] at h
    exact absurd h (by simp)
end Go.Proofs.YtghmfcfgmcngpaaDoorSealTag
