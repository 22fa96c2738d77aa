/- What sealHide answers: a body, hidden or uncovered, in memory of its own. Conditions: the bytes can be read; the key, the number and the body's length are in their bounds. -/
import Derived.Test.YtghmfcfgmcngpaaDoorSealTag
import Derived.Laws.MakeOwn
set_option linter.unusedVariables false
set_option linter.unusedSimpArgs false
namespace Go.Proofs.YtghmfcfgmcngpaaDoorSealHide
open Go.RowKit Go.Proofs.YtghmfcfgmcngpaaDoorW.PrintWords Go.Proofs.YtghmfcfgmcngpaaDoorSeal Go.Proofs.YtghmfcfgmcngpaaDoorSealTag

theorem infoU8 : (Tryd.prog.info? 5).map (fun i => (i.zero, i.size, i.bytes)) = some (some (.int .u8 0), 1, 1) := by kernel_rfl
def hidden (pad x : Int) (k : Nat) : Int := bits .xor .u8 x (IntKind.u8.wrap (mixZ pad (200000 + (k : Int))))
def hideZ (key seq : Int) (body : List Int) : List Int := (List.range body.length).map fun k => hidden (mixZ key (500 + seq)) (body.getD k 0) k
theorem hideZ_length (key seq : Int) (body : List Int) : (hideZ key seq body).length = body.length := by simp [hideZ]
/-- What stands when k bytes are hidden, of so many places. -/
def part (H : List Int) (N k : Nat) : List Int := H.take k ++ List.replicate (N - k) 0
theorem part_zero (H : List Int) (N : Nat) : part H N 0 = List.replicate N 0 := by simp [part]
theorem part_length (H : List Int) (N k : Nat) (h1 : k ≤ H.length) (h2 : H.length ≤ N) : (part H N k).length = N := by
  unfold part
  rw [List.length_append, List.length_take, List.length_replicate]
  omega
theorem part_set (H : List Int) (N k : Nat) (h1 : k < H.length) (h2 : H.length ≤ N) : (part H N k).set k (H.getD k 0) = part H N (k + 1) := by
  unfold part
  rw [take_snoc H k h1, show N - k = (N - (k + 1)) + 1 by omega, List.replicate_succ, List.set_append_right _ _ (by rw [List.length_take]; omega), List.length_take, Nat.min_eq_left (by omega), Nat.sub_self]
  simp
theorem made_rep (z : Value) (n : Nat) : madeCells #[z] n = (List.replicate n z).toArray := by
  apply Array.ext
  · simp [madeCells]
  · intro i h1 h2
    simp [madeCells, Nat.mod_one]
theorem make_run (n room : Nat) (hn : n + room ≤ 1000) (W : World) : (Instr.makeSlice 22 (.int .i64 (n : Int)) (.int .i64 ((n : Int) + (room : Int)))).run Tryd.prog W = .ok (.slice (some ⟨W.heap.size, 0, none⟩) n (n + room)) (W.alloc (.cells (nums .u8 (List.replicate (n + room) 0)).toArray 5)) := by
  obtain ⟨i0, hi, hz0, hz1, hz2⟩ := info_parts infoU8
  have h := run_make (P := Tryd.prog) W 22 5 i0 (.int .u8 0) Tryd.underlying22 hi hz0 .i64 .i64 (n : Int) ((n : Int) + (room : Int)) (by omega) (by omega) (by rw [hz2]; omega) (by omega)
  rw [h]
  have e : ((n : Int) + (room : Int)).toNat = n + room := by omega
  have e2 : (Value.int .u8 0).cells = #[.int .u8 0] := rfl
  rw [e, Int.toNat_natCast, hz1, e2, made_rep]
  simp [nums]
theorem own_part {w : World} {base g n N : Nat} {l L : List Int} (hb : base ≤ g) (hl : l.length = n) (hN : L.length = N) (hn : n ≤ N) (hm : N ≤ 1000) (ht : L.take n = l) (hg : w.heap[g]? = some (.cells (nums .u8 L).toArray 5 (0, 0))) : Kd.R (Kd.int .u8) 5 w base (fun _ => True) (.slice (some ⟨g, 0, none⟩) n N) l := by
  subst hl
  refine Kd.R_of_own ⟨by simp [encs], .inr ⟨g, N, _, rfl, hb, hg, hn, by unfold maxLen; omega, ?_, ?_⟩⟩ (fun _ _ => trivial)
  · simp [nums, hN]
  · rw [Nat.mul_one]
    show List.take l.length (nums .u8 L) = nums .u8 l
    simp only [nums]
    rw [← List.map_take, ht]
theorem cell_part {wr : World} {g k : Nat} {L : List Int} (hg : wr.heap[g]? = some (.cells (nums .u8 L).toArray 5 (0, 0))) (hk : k < L.length) : wr.cell? ⟨g, k, none⟩ = some (.int .u8 (L.getD k 0)) := by
  rw [blk_cell hg k]
  simp [nums, hk]
theorem set_part {wr : World} {g k : Nat} {L : List Int} {x : Int} (hg : wr.heap[g]? = some (.cells (nums .u8 L).toArray 5 (0, 0))) : (wr.setCell ⟨g, k, none⟩ (.int .u8 x)).heap[g]? = some (.cells (nums .u8 (L.set k x)).toArray 5 (0, 0)) := by
  rw [blk_set hg k]
  simp [nums]

set_option maxRecDepth 100000 in
set_option maxHeartbeats 4000000 in
theorem hide_any (key seq : Int) (A : Option Addr) (c : Nat) (body : List Int) (room : Nat) (w : World) (hA : Kd.C (Kd.int .u8) w A body.length body) (h1 : isBytes body = true) (k0 : 0 ≤ key) (k1 : key ≤ 4294967295) (s0 : 0 ≤ seq) (s1 : seq ≤ 65535) (hl : body.length ≤ 100) (hr : room ≤ 100) :
    Calls Tryd.prog 30 #[.int .i64 key, .int .i64 seq, .slice A body.length c, .int .i64 (room : Int)] w fun e w' => ∃ v, e = .returned v ∧ Kd.R (Kd.int .u8) 5 w' w.heap.size (fun _ => True) v (hideZ key seq body) ∧ Below w.heap.size w w' := by
  obtain ⟨H, hH⟩ : ∃ H, H = hideZ key seq body := ⟨_, rfl⟩
  rw [← hH]
  have hHl : H.length = body.length := by rw [hH, hideZ_length]
  have hp := mixZ_in key (500 + seq)
  have HAT : Aside0 (∀ k, k < body.length → H.getD k 0 = hidden (mixZ key (500 + seq)) (body.getD k 0) k) := ⟨fun k hk => by rw [hH]; simp [hideZ, hk]⟩
  obtain ⟨P, hP⟩ : ∃ P, mixZ key (500 + seq) = P := ⟨_, rfl⟩
  rw [hP] at HAT hp
  have hmk := make_run body.length room (by omega)
  have HA := Aside0.mk hA
  have H1 := Aside0.mk h1
  have HP := Aside0.mk hP
  obtain ⟨p0, p1⟩ := hp
  obtain ⟨n, hn⟩ : ∃ n, n = body.length := ⟨_, rfl⟩
  rw [← hn] at hl hmk HAT hHl ⊢
  have HN := Aside0.mk hn
  have HHL := Aside0.mk hHl
  clear hA h1 hP hn hH hHl
  go_enter Tryd.func30, Tryd.ntmps30
  go_wp2_with (go_at_call 41; refine (mix_any _ _ _ (by omega) (by omega) (by omega) (by omega)).mono ?_; rintro e w' ⟨rfl, rfl⟩)
  rw [HP.out]
  go_loopw [27] (fun i wr => ∃ k : Nat, k ≤ n ∧ i = .int .i64 k ∧ Aside0 (wr.heap[w.heap.size]? = some (.cells (nums .u8 (part H (n + room) k)).toArray 5 (0, 0))) ∧ Aside0 (Below w.heap.size w wr)) (fun i _ => n - (intOf i).toNat)
  case atStart =>
    refine ⟨0, Nat.zero_le _, rfl, ⟨?_⟩, ⟨(Below.refl _ _).alloc (Nat.le_refl _) _⟩⟩
    rw [part_zero]
    exact heap_alloc_new w _
  case round =>
    obtain ⟨k, hk, rfl, HV, HW⟩ := hrel
    by_cases hlt : k < n
    · obtain ⟨ad, rfl, hc⟩ := read_at (Kd.C_below HA.out HW.out) (by rw [← HN.out]; omega)
      have hcell := hc k (by rw [← HN.out]; exact hlt)
      have hx := isBytes_at H1.out k
      have hat := HAT.out k hlt
      have hpl := part_length H (n + room) k (by rw [HHL.out]; omega) (by rw [HHL.out]; omega)
      have hown := cell_part HV.out (k := k) (by rw [hpl]; omega)
      have hfz := blk_frozen HV.out k
      have hset := part_set H (n + room) k (by rw [HHL.out]; exact hlt) (by rw [HHL.out]; omega)
      have HSET := Aside0.mk hset
      generalize body.getD k 0 = x at *
      have HATK := Aside0.mk hat
      obtain ⟨x0, x1⟩ := hx
      obtain ⟨y, hy⟩ : ∃ y, (part H (n + room) k).getD k 0 = y := ⟨_, rfl⟩
      rw [hy] at hown
      have hz := mixZ_in P (200000 + (k : Int))
      have HMIX := Aside0.mk (fun W : World => mix_any P (200000 + (k : Int)) W p0 p1 (by omega) (by omega))
      obtain ⟨z, hz1⟩ : ∃ z, mixZ P (200000 + (k : Int)) = z := ⟨_, rfl⟩
      rw [hz1] at hz
      simp only [hz1] at HMIX
      have HZ := Aside0.mk hz1
      obtain ⟨z0, z1⟩ := hz
      clear hc hat hset hy hpl hz1
      go_wp2_with (go_at_call 41; refine (HMIX.out _).mono ?_; rintro e w' ⟨rfl, rfl⟩)
      go_roundw
      case rel =>
        refine ⟨k + 1, by omega, by go_num, ⟨?_⟩, ⟨HW.out.setCell (p := ⟨w.heap.size, k, none⟩) (Nat.le_refl _) _⟩⟩
        rw [← HSET.out, HATK.out, hidden, HZ.out]
        exact set_part HV.out
      case measure => simp [intOf]; omega
    · obtain rfl : k = n := by omega
      go_wp2
      go_ret
      refine ⟨_, rfl, own_part (Nat.le_refl _) HHL.out (part_length _ _ _ (by rw [HHL.out]; omega) (by rw [HHL.out]; omega)) (by omega) (by omega) ?_ HV.out, HW.out⟩
      unfold part
      have := HHL.out
      rw [List.take_append_of_le_length (by rw [List.length_take]; omega), List.take_take, Nat.min_self, List.take_of_length_le (by omega)]
def okH (key seq : Int) (body : List Int) (room : Int) : Bool := isBytes body && decide ((0 ≤ key ∧ key ≤ 4294967295) ∧ (0 ≤ seq ∧ seq ≤ 65535) ∧ body.length ≤ 100 ∧ 0 ≤ room ∧ room ≤ 100)
theorem hide_told (key seq : Int) (A : Option Addr) (c : Nat) (body : List Int) (room : Int) (w : World) (hA : Kd.C (Kd.int .u8) w A body.length body) (r : List Int) (h : (if okH key seq body room = true then some (hideZ key seq body) else none) = some r) :
    Calls Tryd.prog 30 #[.int .i64 key, .int .i64 seq, .slice A body.length c, .int .i64 room] w fun e w' => ∃ v, e = .returned v ∧ Kd.R (Kd.int .u8) 5 w' w.heap.size (fun _ => True) v r ∧ Below w.heap.size w w' := by
  by_cases hok : okH key seq body room = true
  · rw [if_pos hok] at h
    obtain rfl := Option.some.inj h
    unfold okH at hok
    rw [Bool.and_eq_true] at hok
    obtain ⟨⟨k0, k1⟩, ⟨s0, s1⟩, hl, r0, r1⟩ := of_decide_eq_true hok.2
    obtain ⟨m, rfl⟩ := Int.eq_ofNat_of_zero_le r0
    exact hide_any key seq A c body m w hA hok.1 k0 k1 s0 s1 hl (by omega)
  · rw [if_neg hok] at h
    exact absurd h (by simp)
end Go.Proofs.YtghmfcfgmcngpaaDoorSealHide
