import Derived.Test.YtjdgfijpmljhiaaBlockB
namespace Go.Proofs.Ytjdgfijpmljhiaa
open Go.RowKit
set_option linter.unusedVariables false

/-- the reference's Parse tells R: its data are bytes that one can read -/
def QTells (R : Blk.PR) (w : World) (e : Ending) (w' : World) : Prop :=
  ∃ a n cap, e = .returned (.tuple #[.agg #[.int .i64 R.g, .int .i64 R.s, .int .i64 R.z, .slice a n cap], .int .i64 R.err]) ∧ Below w.heap.size w w' ∧ Bt w' a n cap R.data
theorem rparse_post {Q : Ending → World → Prop} {w W5 : World} {act : Act} {x : Value} {E : Int} {g s z : Int} (hp : act.tmps.getD 2 undef = .pointer (some ⟨w.heap.size, 0, none⟩)) (h3 : act.tmps.getD 3 undef = .int .i64 E) (hd : act.defers = [])
    {f : Nat → Value} (r5 : W5.rowIs w.heap.size 77 4 f) (hR : Q (.returned (.tuple #[.agg #[.int .i64 g, .int .i64 s, .int .i64 z, x], .int .i64 E])) ((((W5.setCell ⟨w.heap.size, 0, none⟩ (.int .i64 g)).setCell ⟨w.heap.size, 1, none⟩ (.int .i64 s)).setCell ⟨w.heap.size, 2, none⟩ (.int .i64 z)).setCell ⟨w.heap.size, 3, none⟩ x)) :
    bodyPost Try.prog Try.f53 Q .ret act ((((W5.setCell ⟨w.heap.size, 0, none⟩ (.int .i64 g)).setCell ⟨w.heap.size, 1, none⟩ (.int .i64 s)).setCell ⟨w.heap.size, 2, none⟩ (.int .i64 z)).setCell ⟨w.heap.size, 3, none⟩ x) := by
  have hl := load4 (row_set4 r5 (.int .i64 g) (.int .i64 s) (.int .i64 z) x)
  generalize ((((W5.setCell ⟨w.heap.size, 0, none⟩ (.int .i64 g)).setCell ⟨w.heap.size, 1, none⟩ (.int .i64 s)).setCell ⟨w.heap.size, 2, none⟩ (.int .i64 z)).setCell ⟨w.heap.size, 3, none⟩ x) = W6 at *
  refine bodyPost_ret ?_ hd hR
  unfold results
  rw [Try.results53]
  rw [Array.getD_eq_getD_getElem?] at hp h3
  simp [hp, h3, hl, asAddr]
/-- The same, and the data read so wherever the bytes that were handed in read so. -/
def QT (R : Blk.PR) (a0 : Option Addr) (n0 cap0 : Nat) (l : List UInt8) (w : World) (e : Ending) (w' : World) : Prop :=
  ∃ a n cap, e = .returned (.tuple #[.agg #[.int .i64 R.g, .int .i64 R.s, .int .i64 R.z, .slice a n cap], .int .i64 R.err]) ∧ Below w.heap.size w w' ∧ ∀ W, Bt W a0 n0 cap0 l → Bt W a n cap R.data
theorem QT.tells {R : Blk.PR} {a0 : Option Addr} {n0 cap0 : Nat} {l : List UInt8} {w : World} {e : Ending} {w' : World} (h : QT R a0 n0 cap0 l w e w') (hb : Bt w a0 n0 cap0 l) : QTells R w e w' := by
  obtain ⟨a, n, cap, h1, h2, h3⟩ := h
  exact ⟨a, n, cap, h1, h2, Sl.below (h3 w hb) h2⟩
theorem qerr {w W5 : World} {E : Int} {a0 : Option Addr} {n0 cap0 : Nat} {l : List UInt8} (hb : Below w.heap.size w W5) : QT ⟨E, 0, 0, 0, []⟩ a0 n0 cap0 l w (.returned (.tuple #[.agg #[.int .i64 0, .int .i64 0, .int .i64 0, .slice none 0 0], .int .i64 E])) ((((W5.setCell ⟨w.heap.size, 0, none⟩ (.int .i64 0)).setCell ⟨w.heap.size, 1, none⟩ (.int .i64 0)).setCell ⟨w.heap.size, 2, none⟩ (.int .i64 0)).setCell ⟨w.heap.size, 3, none⟩ (.slice none 0 0)) :=
  ⟨none, 0, 0, rfl, (((hb.setCell (Nat.le_refl _) _).setCell (Nat.le_refl _) _).setCell (Nat.le_refl _) _).setCell (Nat.le_refl _) _, fun W _ => Sl.none _ _⟩
theorem qok {w W5 : World} {g s z m : Nat} {xa : Option Addr} {xc : Nat} {data : List UInt8} {a0 : Option Addr} {n0 cap0 : Nat} {l : List UInt8} (hb : Below w.heap.size w W5) (ho : ∀ W, Bt W a0 n0 cap0 l → Bt W xa m xc data) : QT ⟨0, g, s, z, data⟩ a0 n0 cap0 l w (.returned (.tuple #[.agg #[.int .i64 g, .int .i64 s, .int .i64 z, .slice xa m xc], .int .i64 0])) ((((W5.setCell ⟨w.heap.size, 0, none⟩ (.int .i64 g)).setCell ⟨w.heap.size, 1, none⟩ (.int .i64 s)).setCell ⟨w.heap.size, 2, none⟩ (.int .i64 z)).setCell ⟨w.heap.size, 3, none⟩ (.slice xa m xc)) := by
  have hb' := (((hb.setCell (p := ⟨w.heap.size, 0, none⟩) (Nat.le_refl _) (.int .i64 g)).setCell (p := ⟨w.heap.size, 1, none⟩) (Nat.le_refl _) (.int .i64 s)).setCell (p := ⟨w.heap.size, 2, none⟩) (Nat.le_refl _) (.int .i64 z)).setCell (p := ⟨w.heap.size, 3, none⟩) (Nat.le_refl _) (.slice xa m xc)
  exact ⟨xa, m, xc, rfl, hb', ho⟩
theorem below_undrew {B : Nat} {a w : World} (h : Below B a.drew w) : Below B a w := Below.trans (show Below B a a.drew from ⟨rfl, rfl, rfl, Nat.le_refl _, fun _ _ => rfl⟩) h
/-- the sum's bytes as the loop takes them, the last one first -/
def accV (l : List UInt8) (K : Nat) : Nat → Nat
  | 0 => 0
  | k + 1 => 256 * accV l K k + at8 l (K + 3 - k)
theorem accV_lt (l : List UInt8) (K : Nat) (k : Nat) : accV l K k < 256 ^ k := by
  induction k with
  | zero => exact Nat.one_pos
  | succ k ih => have := at8_lt l (K + 3 - k); unfold accV; rw [Nat.pow_succ]; omega
theorem accV_lt3 (l : List UInt8) (K : Nat) (k : Nat) (h : k < 4) : accV l K k < 16777216 := Nat.lt_of_lt_of_le (accV_lt l K k) (Nat.pow_le_pow_right (n := 256) (by decide) (show k ≤ 3 by omega))
theorem accV4 (l : List UInt8) (K : Nat) : accV l K 4 = Blk.rd4 l K := by
  simp only [accV, Blk.rd4]; rw [show K + 3 - 1 = K + 2 by omega, show K + 3 - 2 = K + 1 by omega, show K + 3 - 3 = K by omega, show K + 3 - 0 = K + 3 by omega]; omega

set_option maxRecDepth 100000 in
set_option maxHeartbeats 4000000 in
theorem rParseBlock_short (a : Option Addr) (n cap : Nat) (l : List UInt8) (w : World) (h : Bt w a n cap l) (h12 : n < 12) :
    Calls Try.prog 53 #[.slice a n cap] w (QT (Blk.parse l) a n cap l w) := by
  have hle := h.le
  have hmax := h.max
  unfold maxLen at hmax
  have HL := hid (Bt.n h)
  have d1 : decide ((n : Int) < 12) = true := by simp; omega
  go_enter Try.func53, Try.ntmps53
  go_wp2
  go_quiet (fail)
  go_wp2
  have HR := Blk.parse_form l (.inl (by rw [HL.out]; exact h12))
  rw [HR]
  exact rparse_post rfl rfl rfl (row4 w 77 _ _ _ _ (four _ _ _ _) rfl rfl rfl rfl) (qerr (below_drewN ((Below.refl _ _).alloc (Nat.le_refl _) _) _))

set_option maxRecDepth 100000 in
set_option maxHeartbeats 4000000 in
theorem rParseBlock_first (a : Option Addr) (n cap : Nat) (l : List UInt8) (w : World) (h : Bt w a n cap l) (h12 : ¬ n < 12) (h0 : at8 l 0 ≠ 83 ∨ 256 * at8 l 5 + at8 l 6 + 11 ≠ n) :
    Calls Try.prog 53 #[.slice a n cap] w (QT (Blk.parse l) a n cap l w) := by
  have hle := h.le
  have hmax := h.max
  unfold maxLen at hmax
  have HL := hid (Bt.n h)
  obtain ⟨K, rfl⟩ : ∃ K, n = K + 12 := ⟨n - 12, by omega⟩
  obtain ⟨b, off, rfl, _⟩ := h.addr (by omega)
  have d1 : decide ((K : Int) + 12 < 12) = false := by simp; omega
  have hbl := Sl.lt h (by omega) (by decide)
  have e0 : w.cell? ⟨b, off, none⟩ = some (.int .u8 (at8 l 0)) := Bt.at h 0 (by omega)
  have e5 := Bt.at h 5 (by omega)
  have e6 := Bt.at h 6 (by omega)
  have l5 := at8_lt l 5
  have l6 := at8_lt l 6
  have i0 : (0 : Int) < ((K + 12 : Nat) : Int) := by omega
  have i5 : (5 : Int) < ((K + 12 : Nat) : Int) := by omega
  have i6 : (6 : Int) < ((K + 12 : Nat) : Int) := by omega
  have HR := hid (Blk.parse_form l (h0.elim (fun h => .inr (.inl h)) fun h => .inr (.inr (by have := HL.out; omega))))
  rw [HR.out]
  by_cases h00 : at8 l 0 = 83
  · have d2 : (((at8 l 0 : Nat) : Int) != 83) = false := by rw [h00]; rfl
    have d3 : (256 * ((at8 l 5 : Nat) : Int) + ((at8 l 6 : Nat) : Int) != (K : Int) + 12 - 11) = true := by rw [bne_iff_ne]; omega
    have HM0 := hid h0
    clear h0
    clear h00
    go_enter Try.func53, Try.ntmps53
    go_wp2
    go_quiet (fail)
    go_wp2
    exact rparse_post rfl rfl rfl (row4 _ 77 _ _ _ _ (four _ _ _ _) rfl rfl rfl rfl) (qerr (below_drewN ((Below.refl _ _).alloc (Nat.le_refl _) _) _))
  · have d2 : (((at8 l 0 : Nat) : Int) != 83) = true := by rw [bne_iff_ne]; omega
    have HM0 := hid h0
    clear h0
    go_enter Try.func53, Try.ntmps53
    go_wp2
    go_quiet (fail)
    go_wp2
    exact rparse_post rfl rfl rfl (row4 _ 77 _ _ _ _ (four _ _ _ _) rfl rfl rfl rfl) (qerr (below_drewN ((Below.refl _ _).alloc (Nat.le_refl _) _) _))

set_option maxRecDepth 100000 in
set_option maxHeartbeats 8000000 in
theorem rParseBlock_rest (a : Option Addr) (n cap : Nat) (l : List UInt8) (w : World) (h : Bt w a n cap l) (h12 : ¬ n < 12) (h0 : at8 l 0 = 83) (hk : 256 * at8 l 5 + at8 l 6 + 11 = n) :
    Calls Try.prog 53 #[.slice a n cap] w (QT (Blk.parse l) a n cap l w) := by
  have hle := h.le
  have hmax := h.max
  unfold maxLen at hmax
  have HL := hid (Bt.n h)
  obtain ⟨K, rfl⟩ : ∃ K, n = K + 4 := ⟨n - 4, by omega⟩
  obtain ⟨b, off, rfl, _⟩ := h.addr (by omega)
  have d1 : decide ((K : Int) + 4 < 12) = false := by simp; omega
  have hbl := Sl.lt h (by omega) (by decide)
  have e0 : w.cell? ⟨b, off, none⟩ = some (.int .u8 (at8 l 0)) := Bt.at h 0 (by omega)
  have e5 := Bt.at h 5 (by omega)
  have e6 := Bt.at h 6 (by omega)
  have l5 := at8_lt l 5
  have l6 := at8_lt l 6
  have i0 : (0 : Int) < ((K + 4 : Nat) : Int) := by omega
  have i5 : (5 : Int) < ((K + 4 : Nat) : Int) := by omega
  have i6 : (6 : Int) < ((K + 4 : Nat) : Int) := by omega
  have d2 : (((at8 l 0 : Nat) : Int) != 83) = false := by rw [h0]; rfl
  have d3 : (256 * ((at8 l 5 : Nat) : Int) + ((at8 l 6 : Nat) : Int) != (K : Int) + 4 - 11) = false := by rw [bne_eq_false_iff_eq]; omega
  have h8 : 8 ≤ K := by omega
  have hKl : K ≤ 65542 := by omega
  have HM0 := hid h0
  have HK := hid (show 256 * at8 l 5 + at8 l 6 + 7 = K by omega)
  clear h0 hk
  go_enter Try.func53, Try.ntmps53
  go_wp2
  go_quiet (fail)
  go_wp2
  go_loopg [4, 5] 4 (fun gg c i wr => ∃ k : Nat, gg + k = 4 ∧ i = .int .i64 ((k : Int) + 1) ∧ c = .int .u32 (accV l K k : Nat) ∧ Below w.heap.size w wr ∧ wr.rowIs w.heap.size 77 4 (blkF 0 0 0 (.slice none 0 0)))
  case atStart => exact ⟨0, rfl, rfl, rfl, below_drewN ((Below.refl _ _).alloc (Nat.le_refl _) _) _, row4 w 77 _ _ _ _ (blkF 0 0 0 (.slice none 0 0)) rfl rfl rfl rfl⟩
  case round =>
    obtain ⟨k, hk, rfl, rfl, hbw, hr⟩ := hrel
    by_cases hlt : k < 4
    · obtain ⟨m, rfl⟩ : ∃ m, gk = m + 1 := ⟨gk - 1, by omega⟩
      have hc := Bt.at (h.below hbw) (K + 3 - k) (by omega)
      have hx := at8_lt l (K + 3 - k)
      have hv := accV_lt3 l K k hlt
      have HV := hid (show accV l K (k + 1) = 256 * accV l K k + at8 l (K + 3 - k) from rfl)
      have t1 : ((K : Int) + 4 - ((k : Int) + 1)).toNat = K + 3 - k := by omega
      have t2 : (0 : Int) ≤ (K : Int) + 4 - ((k : Int) + 1) := by omega
      have t3 : (K : Int) + 4 - ((k : Int) + 1) < (K : Int) + 4 := by omega
      generalize accV l K k = d at *
      go_wp2
      go_roundg m
      case measure => omega
      case rel => exact ⟨k + 1, by omega, by go_num, by rw [HV.out]; rfl, hbw, hr⟩
    · obtain rfl : k = 4 := by omega
      rw [accV4]
      by_cases hS : Blk.rd4 l K = Crc.sum (l.take K)
      · have d4 : (((Blk.rd4 l K : Nat) : Int) != ((Crc.sum (l.take K) : Nat) : Int)) = false := by rw [hS]; simp
        have v1 := Bt.at (h.below hbw) 1 (by omega)
        have v2 := Bt.at (h.below hbw) 2 (by omega)
        have v3 := Bt.at (h.below hbw) 3 (by omega)
        have v4 := Bt.at (h.below hbw) 4 (by omega)
        have j1 := at8_lt l 1
        have j2 := at8_lt l 2
        have j3 := at8_lt l 3
        have j4 := at8_lt l 4
        obtain ⟨Z, hZ⟩ : ∃ Z, 256 * at8 l 3 + at8 l 4 = Z := ⟨_, rfl⟩
        have o2 : 256 * ((at8 l 3 : Nat) : Int) + ((at8 l 4 : Nat) : Int) = (Z : Int) := by omega
        have HZ := hid hZ
        clear hZ
        have HS := hid hS
        clear hS
        have i1 : (1 : Int) < ((K + 4 : Nat) : Int) := by omega
        have i2 : (2 : Int) < ((K + 4 : Nat) : Int) := by omega
        have i3 : (3 : Int) < ((K + 4 : Nat) : Int) := by omega
        have i4 : (4 : Int) < ((K + 4 : Nat) : Int) := by omega
        have m1 : (1 : Int) < (K : Int) + 4 := by omega
        have m2 : (2 : Int) < (K : Int) + 4 := by omega
        have m3 : (3 : Int) < (K : Int) + 4 := by omega
        have m4 : (4 : Int) < (K : Int) + 4 := by omega
        have y1 : IntKind.i64.wrap ((at8 l 1 : Nat) : Int) = ((at8 l 1 : Nat) : Int) := IntWalk.i64_in _ (by omega)
        have y2 : IntKind.i64.wrap ((at8 l 2 : Nat) : Int) = ((at8 l 2 : Nat) : Int) := IntWalk.i64_in _ (by omega)
        have y3 : IntKind.i64.wrap ((at8 l 3 : Nat) : Int) = ((at8 l 3 : Nat) : Int) := IntWalk.i64_in _ (by omega)
        have y4 : IntKind.i64.wrap ((at8 l 4 : Nat) : Int) = ((at8 l 4 : Nat) : Int) := IntWalk.i64_in _ (by omega)
        have y5 : IntKind.i64.wrap (256 * ((at8 l 3 : Nat) : Int)) = 256 * ((at8 l 3 : Nat) : Int) := IntWalk.i64_in _ (by omega)
        have n5 : K ≤ cap := by omega
        have n6 : (K : Int) ≤ (cap : Int) := by omega
        have n7 : (0 : Int) ≤ (K : Int) := by omega
        have n8 : 7 ≤ K := by omega
        have i7 : (7 : Int) ≤ (K : Int) := by omega
        have n9 : ¬ cap = 7 := by omega
        have hsl : ∀ W, Bt W (some ⟨b, off, none⟩) (K + 4) cap l → Bt W (some ⟨b, off + 7, none⟩) (K - 7) (cap - 7) ((l.drop 7).take (K - 7)) := fun W hW => by
          have := Bt.slice hW (lo := 7) (hi := K) (by omega) (by omega)
          rw [if_neg n9] at this
          simpa [add_off] using this
        have g0 : wr.cell? ⟨w.heap.size, 0, none⟩ = some (.int .i64 0) := hr.cell (by decide)
        have g1 : wr.cell? ⟨w.heap.size, 1, none⟩ = some (.int .i64 0) := hr.cell (by decide)
        have g2 : wr.cell? ⟨w.heap.size, 2, none⟩ = some (.int .i64 0) := hr.cell (by decide)
        have g3 : wr.cell? ⟨w.heap.size, 3, none⟩ = some (.slice none 0 0) := hr.cell (by decide)
        have gf : ∀ o, wr.frozen? ⟨w.heap.size, o, none⟩ = false := hr.frozen
        have hbr : b < wr.heap.size := by have := hbw.size; omega
        go_wp2_with (go_at_call 68; refine (rSum_call _ _ _ (l.take K) _ ((Bt.take h (by omega)).below hbw)).mono ?_; rintro e w3 ⟨rfl, rfl⟩)
        have hW := rWrongBlock_call (at8 l 1) (at8 l 2) Z (some ⟨b, off + 7, none⟩) (K - 7) (cap - 7) (by omega) (by have := h.max; omega)
        obtain ⟨E, hE⟩ : ∃ E, Blk.wrong (at8 l 1) (at8 l 2) Z (K - 7) = E := ⟨_, rfl⟩
        rw [hE] at hW
        have HW := hid hW
        have HE := hid hE
        clear hW hE
        by_cases hz : E = 0
        · subst hz
          have HR := hid (Blk.parse_ok l K HL.out h8 HM0.out HK.out HS.out (by rw [HZ.out, HE.out]))
          go_region
          go_wp2_with (go_at_call 67; refine (HW.out _).mono ?_; rintro e w5 ⟨rfl, hb5⟩; have hb6 := below_undrew hb5; clear hb5; have hb7 := box_below hb6; have r5 := row_below hr hb7; have g0 : w5.cell? ⟨w.heap.size, 0, none⟩ = some (.int .i64 0) := r5.cell (by decide); have g1 : w5.cell? ⟨w.heap.size, 1, none⟩ = some (.int .i64 0) := r5.cell (by decide); have g2 : w5.cell? ⟨w.heap.size, 2, none⟩ = some (.int .i64 0) := r5.cell (by decide); have g3 : w5.cell? ⟨w.heap.size, 3, none⟩ = some (.slice none 0 0) := r5.cell (by decide); have gf : ∀ o, w5.frozen? ⟨w.heap.size, o, none⟩ = false := r5.frozen; have k0 : w5.cell? ⟨wr.heap.size, 0, none⟩ = some (.int .i64 (at8 l 1)) := box_cell hb6 0; have k1 : w5.cell? ⟨wr.heap.size, 1, none⟩ = some (.int .i64 (at8 l 2)) := box_cell hb6 1; have k2 : w5.cell? ⟨wr.heap.size, 2, none⟩ = some (.int .i64 Z) := box_cell hb6 2; have k3 : w5.cell? ⟨wr.heap.size, 3, none⟩ = some (.slice (some ⟨b, off + 7, none⟩) (K - 7) (cap - 7)) := box_cell hb6 3)
          rw [HR.out, HZ.out]
          exact rparse_post rfl rfl rfl r5 (qok (bnext hbw hb7) hsl)
        · have hz0 : (E != 0) = true := by rw [bne_iff_ne]; exact hz
          have HR := hid (Blk.parse_wrong l K HL.out h8 HM0.out HK.out HS.out (by rw [HZ.out, HE.out]; exact hz))
          go_region
          go_wp2_with (go_at_call 67; refine (HW.out _).mono ?_; rintro e w5 ⟨rfl, hb5⟩; have hb6 := below_undrew hb5; clear hb5; have hb7 := box_below hb6; have r5 := row_below hr hb7; have g0 : w5.cell? ⟨w.heap.size, 0, none⟩ = some (.int .i64 0) := r5.cell (by decide); have g1 : w5.cell? ⟨w.heap.size, 1, none⟩ = some (.int .i64 0) := r5.cell (by decide); have g2 : w5.cell? ⟨w.heap.size, 2, none⟩ = some (.int .i64 0) := r5.cell (by decide); have g3 : w5.cell? ⟨w.heap.size, 3, none⟩ = some (.slice none 0 0) := r5.cell (by decide); have gf : ∀ o, w5.frozen? ⟨w.heap.size, o, none⟩ = false := r5.frozen)
          rw [HR.out, HZ.out, HE.out]
          exact rparse_post rfl rfl rfl r5 (qerr (bnext hbw hb7))
      · have d4 : (((Blk.rd4 l K : Nat) : Int) != ((Crc.sum (l.take K) : Nat) : Int)) = true := by rw [bne_iff_ne]; omega
        have HR := hid (Blk.parse_sum l K HL.out h8 HM0.out HK.out hS)
        have g0 : wr.cell? ⟨w.heap.size, 0, none⟩ = some (.int .i64 0) := hr.cell (by decide)
        have g1 : wr.cell? ⟨w.heap.size, 1, none⟩ = some (.int .i64 0) := hr.cell (by decide)
        have g2 : wr.cell? ⟨w.heap.size, 2, none⟩ = some (.int .i64 0) := hr.cell (by decide)
        have g3 : wr.cell? ⟨w.heap.size, 3, none⟩ = some (.slice none 0 0) := hr.cell (by decide)
        have gf : ∀ o, wr.frozen? ⟨w.heap.size, o, none⟩ = false := hr.frozen
        go_wp2_with (go_at_call 68; refine (rSum_call _ _ _ (l.take K) _ ((Bt.take h (by omega)).below hbw)).mono ?_; rintro e w3 ⟨rfl, rfl⟩)
        rw [HR.out]
        exact rparse_post rfl rfl rfl hr (qerr hbw)

theorem rParseBlock_callF (a : Option Addr) (n cap : Nat) (l : List UInt8) (w : World) (h : Bt w a n cap l) :
    Calls Try.prog 53 #[.slice a n cap] w (QT (Blk.parse l) a n cap l w) := by
  by_cases h12 : n < 12
  · exact rParseBlock_short a n cap l w h h12
  by_cases h0 : at8 l 0 = 83
  · by_cases hk : 256 * at8 l 5 + at8 l 6 + 11 = n
    · exact rParseBlock_rest a n cap l w h h12 h0 hk
    · exact rParseBlock_first a n cap l w h h12 (.inr hk)
  · exact rParseBlock_first a n cap l w h h12 (.inl h0)
theorem rParseBlock_call (a : Option Addr) (n cap : Nat) (l : List UInt8) (w : World) (h : Bt w a n cap l) :
    Calls Try.prog 53 #[.slice a n cap] w (QTells (Blk.parse l) w) := (rParseBlock_callF a n cap l w h).mono fun _ _ hh => hh.tells h

end Go.Proofs.Ytjdgfijpmljhiaa
