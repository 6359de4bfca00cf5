/- Joined, and what is not used struck: StripeB, StoJ. -/
import Derived.Test.YthhcdfjijagalaaM18
import Derived.Test.YthhcdfjijagalaaM16
import Derived.Test.YthhcdfjijagalaaM11
namespace Go.Proofs.Ythhcdfjijagalaa
open Go.RowKit
set_option linter.unusedVariables false
theorem info_int8 : (Try.prog.info? 3).map (fun i => (i.zero, i.size, i.bytes)) = some (some (.int .i64 0), 1, 8) := by kernel_rfl
def nCells (U : List Nat) : List Value := U.map fun (u : Nat) => Value.int .i64 (u : Int)
theorem nCells_append (U V : List Nat) : nCells (U ++ V) = nCells U ++ nCells V := by simp [nCells]
theorem nCells_get {U : List Nat} {i : Nat} (h : i < U.length) : (nCells U)[i]? = some (.int .i64 ((U[i] : Nat) : Int)) := by simp [nCells, h]
/-- It returns these numbers; what was there is as it was. -/
def NRes (U : List Nat) (w : World) (e : Ending) (w' : World) : Prop := ∃ a cap, e = .returned (.slice a U.length cap) ∧ Sl w' 1 a U.length cap (nCells U) ∧ Below w.heap.size w w'
theorem rwData_getD {R : List Rw} {k : Nat} (h : k < R.length) : (rwData R).getD k [] = R[k].l := by simp [List.getD, rwData, h]
set_option maxRecDepth 100000 in
set_option maxHeartbeats 2000000 in
theorem sBad_call (a : Option Addr) (n cap : Nat) (R : List Rw) (g : Int) (w : World) (h : Ms w a n cap R) (hn : n * 24 ≤ 140737488355328) :
    Calls Try.prog 66 #[.slice a n cap, .int .i64 g] w (NRes (Stp.badL (rwData R) g n) w) := by
  have HN := hid h.cnt
  have hmax := h.sl.max
  have hle := h.sl.le
  unfold maxLen at hmax
  go_enter Try.func66, Try.ntmps66
  go_wp2_with fail
  go_loopg [5, 12] n (fun gg s5 s12 wr => ∃ k : Nat, gg = n - k ∧ k ≤ n ∧ s12 = .int .i64 (k : Int) ∧ OT w wr none w.heap.size 3 1 s5 (Stp.badL (rwData R) g k).length (nCells (Stp.badL (rwData R) g k)))
  case atStart => exact ⟨0, rfl, by omega, rfl, OT.fresh (World.ownsRow_nil _ _ _ _) (Below.refl _ _) (Nat.le_refl _)⟩
  case round =>
    obtain ⟨k, rfl, hk, rfl, hO⟩ := hrel
    obtain ⟨wo, rfl⟩ : ∃ wo : World, wo = wr := ⟨_, rfl⟩
    have hbo := hO.belowOf (Nat.le_refl _) (fun k e => by cases e)
    have hszo := hbo.size
    by_cases hlt : k < n
    · have hkA : k < R.length := by rw [HN.out]; exact hlt
      obtain ⟨b, off, rfl, _⟩ := h.sl.addr (by omega)
      obtain ⟨x0, hb⟩ := (h.below hbo).at k hkA
      have hl := rwData_getD hkA
      have hle2 := Stp.badL_le (rwData R) g k
      generalize R[k] = r at *
      have D := hid (sshard_call r.a r.n r.cap r.l g (k : Int) wo hb)
      unfold ShTells at D
      have i0 : (0 : Int) ≤ (k : Int) := by omega
      have i1 : (k : Int) < (n : Int) := by omega
      cases hx : Stp.right r.l g (k : Int) with
      | true =>
        have hy := hid (Stp.badL_yes (l := rwData R) (g := g) (k := k) (by rw [hl]; exact hx))
        rw [hx] at D
        replace hl := hid hl
        replace hx := hid hx
        go_wp2_with fail
        go_at_call 82; refine (D.out).mono ?_; rintro e w2 ⟨a2, c2, rfl, b2, -⟩
        have hO2 := hO.below b2
        go_wp2_with fail
        go_roundg (n - (k + 1))
        case measure => omega
        case rel => exact ⟨k + 1, rfl, by omega, by go_num, by rw [hy.out]; exact hO2.alloc _⟩
      | false =>
        have hy := hid (Stp.badL_no (l := rwData R) (g := g) (k := k) (by rw [hl]; exact hx))
        rw [hx] at D
        replace hl := hid hl
        replace hx := hid hx
        go_wp2_with fail
        go_at_call 82; refine (D.out).mono ?_; rintro e w2 ⟨a2, c2, rfl, b2, -⟩
        have hO2 := hO.below b2
        generalize Blk.parse r.l = P at *
        have hO3 := hO2.alloc (.cells #[.int .i64 P.g, .int .i64 P.s, .int .i64 P.z, .slice a2 P.data.length c2] 138)
        have hsz3 : w.heap.size ≤ (w2.alloc (.cells #[.int .i64 P.g, .int .i64 P.s, .int .i64 P.z, .slice a2 P.data.length c2] 138)).heap.size := by have := b2.size; simp; omega
        go_upto_region 7 with (fail)
        generalize w2.alloc (.cells #[.int .i64 P.g, .int .i64 P.s, .int .i64 P.z, .slice a2 P.data.length c2] 138) = w3 at *
        go_wp2_with (refine wpList_append_t rfl (.tmp 26) (.tmp 28) 22 22 rfl w.heap.size 3 1 8 (.int .i64 0) Try.underlying22 info_int8 rfl (by decide) _ (Stp.badL (rwData R) g k).length (nCells (Stp.badL (rwData R) g k)) rfl (hO3.alloc (.cells #[.int .i64 (k : Int)] 3)) (.slice (some ⟨w3.heap.size, 0, none⟩) 1 1) 1 [.int .i64 (k : Int)] rfl (Src.ofLit w3 #[.int .i64 (k : Int)] 3 1 1 Try.underlying22 rfl (by simp [Value.oneCell'])) (by unfold maxLen; omega) (by omega) (by simp; omega) ?_; intro v2 w4 ho2 hg2)
        go_roundg (n - (k + 1))
        case measure => omega
        case rel =>
          refine ⟨k + 1, rfl, by omega, by go_num, ?_⟩
          rw [hy.out, nCells_append, List.length_append]
          exact ho2
    · obtain rfl : n = k := by omega
      obtain ⟨ua, uc, rfl, hIs⟩ := own_sl hO.own
      go_wp2_with fail
      go_ret
      exact ⟨_, _, rfl, hIs, hbo⟩
end Go.Proofs.Ythhcdfjijagalaa
namespace Go.Proofs.Ythhcdfjijagalaa
open Go.RowKit
set_option linter.unusedVariables false
set_option maxRecDepth 100000
def hmVal (h : Hm) : Value := .agg #[.int .i64 h.s, .slice h.a h.b.length h.cap]
/-- the first block of segment k, or none -/
def FindH (H : List Hm) (k : Int) (w : World) (e : Ending) (w' : World) : Prop :=
  Below w.heap.size w w' ∧ ((∃ (i : Nat) (h : i < H.length), e = .returned (.int .i64 (i : Int)) ∧ H[i].s = k ∧ ∀ j (h : j < H.length), j < i → H[j].s ≠ k) ∨ (e = .returned (.int .i64 (-1)) ∧ ∀ j (h : j < H.length), H[j].s ≠ k))
theorem hm_at {w : World} {b off n cap : Nat} {H : List Hm} (h : Sl w 2 (some ⟨b, off, none⟩) n cap (rows hm2 H)) (i : Nat) (hi : i < H.length) : w.cell? ⟨b, off + i * 2, none⟩ = some (.int .i64 H[i].s) ∧ w.cell? ⟨b, off + i * 2 + 1, none⟩ = some (.slice H[i].a H[i].b.length H[i].cap) := by
  have hl := h.len
  rw [rows_length hm2_len] at hl
  have g0 : (rows hm2 H)[i * 2 + 0]? = some (.int .i64 H[i].s) := rows_get hm2_len H i 0 hi (by decide)
  have g1 : (rows hm2 H)[i * 2 + 1]? = some (.slice H[i].a H[i].b.length H[i].cap) := rows_get hm2_len H i 1 hi (by decide)
  exact ⟨h.cell (by omega) g0, h.cell (by omega) g1⟩
set_option maxHeartbeats 1000000 in
theorem stblocks1_call (h : Hm) (B : Nat) (k : Int) (w : World) (hc : w.cell? ⟨B, 0, none⟩ = some (.int .i64 k)) : Calls Try.prog 81 #[hmVal h, .pointer (some ⟨B, 0, none⟩)] w (Grew (.bool (h.s == k)) w) := by
  obtain ⟨s, a, cap, b⟩ := h
  unfold hmVal
  simp only
  have hB := World.block_lt_of_cell? _ _ hc
  have q := (cell_old (o := .cells #[.int .i64 s, .slice a b.length cap] 90) hB).trans hc
  go_enter Try.func81, Try.ntmps81
  go_wp2_with fail
  go_ret
  exact ⟨rfl, (Below.refl _ _).alloc (Nat.le_refl _) _⟩
set_option maxHeartbeats 2000000 in
theorem idx_stblocks1 (a : Option Addr) (n cap : Nat) (H : List Hm) (B : Nat) (k : Int) (w : World) (h : Sl w 2 a n cap (rows hm2 H)) (hc : w.cell? ⟨B, 0, none⟩ = some (.int .i64 k)) : Calls Try.prog 63 #[.slice a n cap, .func (Fn.func 81) #[] #[.pointer (some ⟨B, 0, none⟩)]] w (FindH H k w) := by
  have HN := hid (show H.length = n from by have := h.len; rw [rows_length hm2_len] at this; omega)
  have hle := h.le
  have hmax := h.max
  unfold maxLen at hmax
  have hB := World.block_lt_of_cell? _ _ hc
  have hc2 := hid hc
  go_enter Try.func63, Try.ntmps63
  go_wp2_with fail
  go_loopg [8] n (fun g s8 wr => ∃ m : Nat, g = n - m ∧ m ≤ n ∧ s8 = .int .i64 (m : Int) ∧ Below w.heap.size w wr ∧ Hid (∀ j (h : j < H.length), j < m → H[j].s ≠ k))
  case atStart => exact ⟨0, rfl, by omega, rfl, Below.refl _ _, hid (fun j _ hj => absurd hj (by omega))⟩
  case round =>
    obtain ⟨m, rfl, hm, rfl, hb, H0⟩ := hrel
    by_cases hlt : m < n
    · have hmR : m < H.length := by rw [HN.out]; exact hlt
      obtain ⟨b, o, rfl, -⟩ := h.addr (by omega)
      obtain ⟨e0, e1⟩ := hm_at (h.below hb) m hmR
      have D := hid (fun W (hW : Below w.heap.size w W) => stblocks1_call H[m] B k W ((hW.cell (p := ⟨B, 0, none⟩) hB).trans hc))
      have i0 : (0 : Int) ≤ (m : Int) := by omega
      have i1 : (m : Int) < (n : Int) := by omega
      obtain ⟨z, hz⟩ : ∃ z, H[m] = z := ⟨_, rfl⟩
      rw [hz] at e0 e1 D
      replace hz := hid hz
      unfold hmVal at D
      clear hc
      by_cases hz0 : z.s = k
      · have t0 : (z.s == k) = true := by simpa using hz0
        rw [t0] at D
        replace hz0 := hid hz0
        obtain ⟨zs, za, zc, zb⟩ := z
        simp only at e0 e1 D
        go_wp2_with fail
        go_at_call 81; refine (D.out _ hb).mono ?_; rintro e w1 ⟨rfl, b1⟩
        go_wp2_with fail
        go_ret
        exact ⟨bnext hb b1, .inl ⟨m, hmR, rfl, by rw [hz.out]; exact hz0.out, H0.out⟩⟩
      · have t0 : (z.s == k) = false := by simpa using hz0
        rw [t0] at D
        replace hz0 := hid hz0
        obtain ⟨zs, za, zc, zb⟩ := z
        simp only at e0 e1 D
        go_wp2_with fail
        go_at_call 81; refine (D.out _ hb).mono ?_; rintro e w1 ⟨rfl, b1⟩
        go_wp2_with fail
        go_roundg (n - (m + 1))
        case measure => omega
        case rel =>
          refine ⟨m + 1, rfl, by omega, by go_num, bnext hb b1, hid (fun j hj hjk => ?_)⟩
          by_cases e : j = m
          · subst e; rw [hz.out]; exact hz0.out
          · exact H0.out j hj (by omega)
    · obtain rfl : m = n := by omega
      go_wp2_with fail
      go_ret
      exact ⟨hb, .inr ⟨rfl, fun j hj => H0.out j hj (by rw [← HN.out]; exact hj)⟩⟩
set_option maxHeartbeats 1000000 in
theorem stwrite1_call (h : Hm) (B : Nat) (k : Int) (w : World) (hc : w.cell? ⟨B, 0, none⟩ = some (.int .i64 k)) : Calls Try.prog 83 #[hmVal h, .pointer (some ⟨B, 0, none⟩)] w (Grew (.bool (h.s == k)) w) := by
  obtain ⟨s, a, cap, b⟩ := h
  unfold hmVal
  simp only
  have hB := World.block_lt_of_cell? _ _ hc
  have q := (cell_old (o := .cells #[.int .i64 s, .slice a b.length cap] 90) hB).trans hc
  go_enter Try.func83, Try.ntmps83
  go_wp2_with fail
  go_ret
  exact ⟨rfl, (Below.refl _ _).alloc (Nat.le_refl _) _⟩
set_option maxHeartbeats 2000000 in
theorem idx_stwrite1 (a : Option Addr) (n cap : Nat) (H : List Hm) (B : Nat) (k : Int) (w : World) (h : Sl w 2 a n cap (rows hm2 H)) (hc : w.cell? ⟨B, 0, none⟩ = some (.int .i64 k)) : Calls Try.prog 63 #[.slice a n cap, .func (Fn.func 83) #[] #[.pointer (some ⟨B, 0, none⟩)]] w (FindH H k w) := by
  have HN := hid (show H.length = n from by have := h.len; rw [rows_length hm2_len] at this; omega)
  have hle := h.le
  have hmax := h.max
  unfold maxLen at hmax
  have hB := World.block_lt_of_cell? _ _ hc
  have hc2 := hid hc
  go_enter Try.func63, Try.ntmps63
  go_wp2_with fail
  go_loopg [8] n (fun g s8 wr => ∃ m : Nat, g = n - m ∧ m ≤ n ∧ s8 = .int .i64 (m : Int) ∧ Below w.heap.size w wr ∧ Hid (∀ j (h : j < H.length), j < m → H[j].s ≠ k))
  case atStart => exact ⟨0, rfl, by omega, rfl, Below.refl _ _, hid (fun j _ hj => absurd hj (by omega))⟩
  case round =>
    obtain ⟨m, rfl, hm, rfl, hb, H0⟩ := hrel
    by_cases hlt : m < n
    · have hmR : m < H.length := by rw [HN.out]; exact hlt
      obtain ⟨b, o, rfl, -⟩ := h.addr (by omega)
      obtain ⟨e0, e1⟩ := hm_at (h.below hb) m hmR
      have D := hid (fun W (hW : Below w.heap.size w W) => stwrite1_call H[m] B k W ((hW.cell (p := ⟨B, 0, none⟩) hB).trans hc))
      have i0 : (0 : Int) ≤ (m : Int) := by omega
      have i1 : (m : Int) < (n : Int) := by omega
      obtain ⟨z, hz⟩ : ∃ z, H[m] = z := ⟨_, rfl⟩
      rw [hz] at e0 e1 D
      replace hz := hid hz
      unfold hmVal at D
      clear hc
      by_cases hz0 : z.s = k
      · have t0 : (z.s == k) = true := by simpa using hz0
        rw [t0] at D
        replace hz0 := hid hz0
        obtain ⟨zs, za, zc, zb⟩ := z
        simp only at e0 e1 D
        go_wp2_with fail
        go_at_call 83; refine (D.out _ hb).mono ?_; rintro e w1 ⟨rfl, b1⟩
        go_wp2_with fail
        go_ret
        exact ⟨bnext hb b1, .inl ⟨m, hmR, rfl, by rw [hz.out]; exact hz0.out, H0.out⟩⟩
      · have t0 : (z.s == k) = false := by simpa using hz0
        rw [t0] at D
        replace hz0 := hid hz0
        obtain ⟨zs, za, zc, zb⟩ := z
        simp only at e0 e1 D
        go_wp2_with fail
        go_at_call 83; refine (D.out _ hb).mono ?_; rintro e w1 ⟨rfl, b1⟩
        go_wp2_with fail
        go_roundg (n - (m + 1))
        case measure => omega
        case rel =>
          refine ⟨m + 1, rfl, by omega, by go_num, bnext hb b1, hid (fun j hj hjk => ?_)⟩
          by_cases e : j = m
          · subst e; rw [hz.out]; exact hz0.out
          · exact H0.out j hj (by omega)
    · obtain rfl : m = n := by omega
      go_wp2_with fail
      go_ret
      exact ⟨hb, .inr ⟨rfl, fun j hj => H0.out j hj (by rw [← HN.out]; exact hj)⟩⟩
set_option maxHeartbeats 1000000 in
theorem stharm1_call (h : Hm) (B db off : Nat) (k : Int) (w : World) (hc : w.cell? ⟨B, 0, none⟩ = some (.pointer (some ⟨db, off, none⟩))) (hd : w.cell? ⟨db, off + 2, none⟩ = some (.int .i64 k)) : Calls Try.prog 64 #[hmVal h, .pointer (some ⟨B, 0, none⟩)] w (Grew (.bool (h.s == k)) w) := by
  obtain ⟨s, a, cap, b⟩ := h
  unfold hmVal
  simp only
  have hB := World.block_lt_of_cell? _ _ hc
  have hB2 := World.block_lt_of_cell? _ _ hd
  have q := (cell_old (o := .cells #[.int .i64 s, .slice a b.length cap] 90) hB).trans hc
  have q2 := (cell_old (o := .cells #[.int .i64 s, .slice a b.length cap] 90) hB2).trans hd
  go_enter Try.func64, Try.ntmps64
  go_wp2_with fail
  go_quiet (fail)
  go_wp2_with fail
  go_ret
  exact ⟨rfl, below_drewN ((Below.refl _ _).alloc (Nat.le_refl _) _) _⟩
set_option maxHeartbeats 2000000 in
theorem idx_stharm1 (a : Option Addr) (n cap : Nat) (H : List Hm) (B db off : Nat) (k : Int) (w : World) (h : Sl w 2 a n cap (rows hm2 H)) (hc : w.cell? ⟨B, 0, none⟩ = some (.pointer (some ⟨db, off, none⟩))) (hd : w.cell? ⟨db, off + 2, none⟩ = some (.int .i64 k)) : Calls Try.prog 63 #[.slice a n cap, .func (Fn.func 64) #[] #[.pointer (some ⟨B, 0, none⟩)]] w (FindH H k w) := by
  have HN := hid (show H.length = n from by have := h.len; rw [rows_length hm2_len] at this; omega)
  have hle := h.le
  have hmax := h.max
  unfold maxLen at hmax
  have hB := World.block_lt_of_cell? _ _ hc
  have hB2 := World.block_lt_of_cell? _ _ hd
  have hc2 := hid hc
  go_enter Try.func63, Try.ntmps63
  go_wp2_with fail
  go_loopg [8] n (fun g s8 wr => ∃ m : Nat, g = n - m ∧ m ≤ n ∧ s8 = .int .i64 (m : Int) ∧ Below w.heap.size w wr ∧ Hid (∀ j (h : j < H.length), j < m → H[j].s ≠ k))
  case atStart => exact ⟨0, rfl, by omega, rfl, Below.refl _ _, hid (fun j _ hj => absurd hj (by omega))⟩
  case round =>
    obtain ⟨m, rfl, hm, rfl, hb, H0⟩ := hrel
    by_cases hlt : m < n
    · have hmR : m < H.length := by rw [HN.out]; exact hlt
      obtain ⟨b, o, rfl, -⟩ := h.addr (by omega)
      obtain ⟨e0, e1⟩ := hm_at (h.below hb) m hmR
      have D := hid (fun W (hW : Below w.heap.size w W) => stharm1_call H[m] B db off k W ((hW.cell (p := ⟨B, 0, none⟩) hB).trans hc) ((hW.cell (p := ⟨db, off + 2, none⟩) hB2).trans hd))
      have i0 : (0 : Int) ≤ (m : Int) := by omega
      have i1 : (m : Int) < (n : Int) := by omega
      obtain ⟨z, hz⟩ : ∃ z, H[m] = z := ⟨_, rfl⟩
      rw [hz] at e0 e1 D
      replace hz := hid hz
      unfold hmVal at D
      clear hc
      by_cases hz0 : z.s = k
      · have t0 : (z.s == k) = true := by simpa using hz0
        rw [t0] at D
        replace hz0 := hid hz0
        obtain ⟨zs, za, zc, zb⟩ := z
        simp only at e0 e1 D
        go_wp2_with fail
        go_at_call 64; refine (D.out _ hb).mono ?_; rintro e w1 ⟨rfl, b1⟩
        go_wp2_with fail
        go_ret
        exact ⟨bnext hb b1, .inl ⟨m, hmR, rfl, by rw [hz.out]; exact hz0.out, H0.out⟩⟩
      · have t0 : (z.s == k) = false := by simpa using hz0
        rw [t0] at D
        replace hz0 := hid hz0
        obtain ⟨zs, za, zc, zb⟩ := z
        simp only at e0 e1 D
        go_wp2_with fail
        go_at_call 64; refine (D.out _ hb).mono ?_; rintro e w1 ⟨rfl, b1⟩
        go_wp2_with fail
        go_roundg (n - (m + 1))
        case measure => omega
        case rel =>
          refine ⟨m + 1, rfl, by omega, by go_num, bnext hb b1, hid (fun j hj hjk => ?_)⟩
          by_cases e : j = m
          · subst e; rw [hz.out]; exact hz0.out
          · exact H0.out j hj (by omega)
    · obtain rfl : m = n := by omega
      go_wp2_with fail
      go_ret
      exact ⟨hb, .inr ⟨rfl, fun j hj => H0.out j hj (by rw [← HN.out]; exact hj)⟩⟩
theorem nanInt_call (x : Int) (w : World) : Calls Try.prog 73 #[.int .i64 x] w (Same (.bool false) w) := by
  have e1 : (x != x) = false := by simp
  go_enter Try.func73, Try.ntmps73
  go_wp2_with fail
  go_ret
  exact ⟨rfl, rfl⟩
theorem nanInt2_call (x : Int) (w : World) : Calls Try.prog 87 #[.int .i64 x] w (Same (.bool false) w) := by
  have e1 : (x != x) = false := by simp
  go_enter Try.func87, Try.ntmps87
  go_wp2_with fail
  go_ret
  exact ⟨rfl, rfl⟩
set_option maxHeartbeats 1000000 in
theorem lessInt_call (x y : Int) (w : World) : Calls Try.prog 72 #[.int .i64 x, .int .i64 y] w (Same (.bool (decide (x < y))) w) := by
  go_enter Try.func72, Try.ntmps72
  go_wp2_with fail
  go_at_call 87; refine (nanInt2_call _ _).mono ?_; rintro e w1 ⟨rfl, rfl⟩
  go_wp2_with fail
  go_ret
  exact ⟨rfl, rfl⟩
/-- It returns where it stands, or would stand; and whether it stands there. -/
def FoundI (l : List Int) (c : Int) (w : World) (e : Ending) (w' : World) : Prop :=
  w' = w ∧ ∃ i : Nat, i ≤ l.length ∧ e = .returned (.tuple #[.int .i64 (i : Int), .bool (decide (l[i]? = some c))]) ∧ (∀ j (h : j < l.length), j < i → l[j] < c) ∧ (∀ j (h : j < l.length), i ≤ j → c ≤ l[j])
set_option maxHeartbeats 2000000 in
theorem searchInt_call (a : Option Addr) (n cap : Nat) (l : List Int) (c : Int) (w : World) (h : Sl w 1 a n cap (l.map (Value.int .i64))) (hr : ∀ i j (hi : i < l.length) (hj : j < l.length), i < j → l[i] < l[j]) (hn : n ≤ 1000) : Calls Try.prog 53 #[.slice a n cap, .int .i64 c] w (FoundI l c w) := by
  have HN := hid (show l.length = n from by have := h.len; simpa using this)
  have HR := hid hr
  clear hr
  go_enter Try.func53, Try.ntmps53
  go_wp2_with fail
  go_loopg [7, 8] n (fun g s9 s10 wr => ∃ i j : Nat, g = j - i ∧ i ≤ j ∧ j ≤ n ∧ s9 = .int .i64 (i : Int) ∧ s10 = .int .i64 (j : Int) ∧ w = wr ∧ Hid (∀ k (hk : k < l.length), k < i → l[k] < c) ∧ Hid (∀ k (hk : k < l.length), j ≤ k → c ≤ l[k]))
  case atStart => exact ⟨0, n, rfl, by omega, by omega, rfl, rfl, rfl, hid (fun k _ hk => absurd hk (by omega)), hid (fun k hk hk2 => absurd hk (by rw [HN.out]; omega))⟩
  case round =>
    obtain ⟨i, j, rfl, hij, hjn, rfl, rfl, rfl, HA, HB⟩ := hrel
    by_cases hlt : i < j
    · obtain ⟨b, off, rfl, -⟩ := h.addr (by omega)
      obtain ⟨m, hm⟩ : ∃ m, m = (i + j) / 2 := ⟨_, rfl⟩
      have hmj : m < j := by omega
      have him : i ≤ m := by omega
      have hml : m < l.length := by rw [HN.out]; omega
      have q0 : w.cell? ⟨b, off + m, none⟩ = some (.int .i64 l[m]) := h.cell (by omega) (by simp [hml])
      have D := hid (fun W => lessInt_call l[m] c W)
      have s1 : IntKind.i64.wrap ((i : Int) + (j : Int)) = (i : Int) + (j : Int) := IntWalk.i64_in _ (by omega)
      have s2 : IntKind.u64.wrap ((i : Int) + (j : Int)) = (i : Int) + (j : Int) := IntWalk.u64_in _ (by omega)
      have s3 : ((i : Int) + (j : Int)) / 2 = (m : Int) := by omega
      have i0 : (0 : Int) ≤ (m : Int) := by omega
      have i1 : (m : Int) < (n : Int) := by omega
      replace hm := hid hm
      obtain ⟨x, hx⟩ : ∃ x, l[m] = x := ⟨_, rfl⟩
      rw [hx] at q0 D
      replace hx := hid hx
      by_cases hless : x < c
      · have t0 : decide (x < c) = true := decide_eq_true hless
        rw [t0] at D
        replace hless := hid hless
        go_wp2_with fail
        go_at_call 72; refine (D.out _).mono ?_; rintro e w1 ⟨rfl, rfl⟩
        go_wp2_with fail
        go_roundg (j - (m + 1))
        case measure => omega
        case rel =>
          refine ⟨m + 1, j, rfl, by omega, by omega, by go_num, rfl, rfl, hid (fun k hk hkm => ?_), HB⟩
          by_cases e : k = m
          · subst e; rw [hx.out]; exact hless.out
          · exact Int.lt_trans (HR.out k m hk hml (by omega)) (by rw [hx.out]; exact hless.out)
      · have t0 : decide (x < c) = false := decide_eq_false hless
        rw [t0] at D
        replace hless := hid (Int.not_lt.1 hless)
        go_wp2_with fail
        go_at_call 72; refine (D.out _).mono ?_; rintro e w1 ⟨rfl, rfl⟩
        go_wp2_with fail
        go_roundg (m - i)
        case measure => omega
        case rel =>
          refine ⟨i, m, rfl, by omega, by omega, rfl, by go_num, rfl, HA, hid (fun k hk hkm => ?_)⟩
          by_cases e : k = m
          · subst e; rw [hx.out]; exact hless.out
          · have := HR.out m k hml hk (by omega)
            rw [hx.out] at this
            exact Int.le_of_lt (Int.lt_of_le_of_lt hless.out this)
    · obtain rfl : i = j := by omega
      clear hlt hij
      by_cases hin : i < n
      · have hil : i < l.length := by rw [HN.out]; exact hin
        obtain ⟨b, off, rfl, -⟩ := h.addr (by omega)
        have q0 : w.cell? ⟨b, off + i, none⟩ = some (.int .i64 l[i]) := h.cell (by omega) (by simp [hil])
        obtain ⟨x, hx⟩ : ∃ x, l[i] = x := ⟨_, rfl⟩
        rw [hx] at q0
        have i0 : (0 : Int) ≤ (i : Int) := by omega
        have u0 : (i : Int) < (n : Int) := by omega
        replace hx := hid hx
        by_cases he : x = c
        · subst he
          have t0 : (x == x) = true := by simp
          go_wp2_with fail
          go_ret2
          exact ⟨rfl, i, by omega, by rw [decide_eq_true (show l[i]? = some x by rw [List.getElem?_eq_getElem hil, hx.out])]; rfl, HA.out, HB.out⟩
        · have t0 : (x == c) = false := beq_eq_false_iff_ne.2 he
          replace he := hid he
          go_wp2_with fail
          go_at_call 73; refine (nanInt_call _ _).mono ?_; rintro e w1 ⟨rfl, rfl⟩
          go_wp2_with fail
          go_ret2
          exact ⟨rfl, i, by omega, by rw [decide_eq_false (show ¬ l[i]? = some c by rw [List.getElem?_eq_getElem hil, hx.out]; exact fun hh => he.out (Option.some.inj hh))]; rfl, HA.out, HB.out⟩
      · obtain rfl : n = i := by omega
        have hdec := hid (decide_eq_false (p := l[n]? = some c) (fun e => by rw [List.getElem?_eq_none (by rw [HN.out]; exact Nat.le_refl _)] at e; cases e))
        go_wp2_with fail
        go_ret2
        exact ⟨rfl, n, by rw [HN.out]; exact Nat.le_refl _, by rw [hdec.out]; rfl, HA.out, HB.out⟩
end Go.Proofs.Ythhcdfjijagalaa
