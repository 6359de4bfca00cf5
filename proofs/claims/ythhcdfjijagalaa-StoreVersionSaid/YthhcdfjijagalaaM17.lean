/- Joined, and what is not used struck: BlockB. -/
import Derived.Test.YthhcdfjijagalaaM16
namespace Go.Proofs.Ythhcdfjijagalaa
open Go.RowKit
set_option linter.unusedVariables false
def blkF (g s z : Int) (x : Value) (i : Nat) : Value := if i = 0 then .int .i64 g else if i = 1 then .int .i64 s else if i = 2 then .int .i64 z else x
/-- Where Parse stands when its block is made: the box of the result in block w.heap.size, the block in block c. -/
structure Made (w wc : World) (c : Nat) (g s z : Int) (xa : Option Addr) (xn xc : Nat) (data : List UInt8) : Prop where
  below : Below w.heap.size w wc
  res : wc.rowIs w.heap.size 138 4 (blkF 0 0 0 (.slice none 0 0))
  out : wc.rowIs c 138 4 (blkF g s z (.slice xa xn xc))
  own : wc.ownsRow w.heap.size 5 1 (.slice xa xn xc) xn (cb data)
  lt : w.heap.size < c
  ne : (Value.slice xa xn xc).ownBlock ≠ some w.heap.size
theorem row4 (w : World) (t : TypeId) (a b c d : Value) (f : Nat → Value) (h0 : f 0 = a) (h1 : f 1 = b) (h2 : f 2 = c) (h3 : f 3 = d) : (w.alloc (.cells #[a, b, c, d] t)).rowIs w.heap.size t 4 f := by
  refine World.rowIs_alloc w #[a, b, c, d] t f ?_
  intro i hi
  match i, hi with
  | 0, _ => rw [h0]; rfl
  | 1, _ => rw [h1]; rfl
  | 2, _ => rw [h2]; rfl
  | 3, _ => rw [h3]; rfl
theorem row_of_heap {w W1 w4 : World} {c : Nat} {t : TypeId} {n : Nat} {f : Nat → Value} (h : w.rowIs c t n f) (hW : W1.heap = w.heap) (hb4 : Below W1.heap.size W1 w4) : w4.rowIs c t n f := by
  refine World.rowIs.of_block h ?_
  rw [hb4.block c (by rw [hW]; exact h.lt), hW]
theorem own_ne {w : World} {B C : Nat} {t : TypeId} {k : Nat} {xa : Option Addr} {xn xc m : Nat} {f : List Value} (ho : w.ownsRow B t k (.slice xa xn xc) m f) (h : C < B) : (Value.slice xa xn xc).ownBlock ≠ some C := by
  rcases ho.2 with ⟨e, _⟩ | ⟨g', cap, cur, e, hg, _⟩
  · rw [e]; simp [Value.ownBlock]
  · rw [e]; simp [Value.ownBlock]; omega
theorem made_one {w W1 w4 : World} {g s z : Int} {xa : Option Addr} {xn xc : Nat} {data : List UInt8} (hW : W1.heap = (w.alloc (.cells #[.int .i64 0, .int .i64 0, .int .i64 0, .slice none 0 0] 138)).heap) (hb4 : Below W1.heap.size W1 w4) (kb : Below w.heap.size w w4)
    (ho : w4.ownsRow W1.heap.size 5 1 (.slice xa xn xc) xn (cb data)) : Made w (w4.alloc (.cells #[.int .i64 g, .int .i64 s, .int .i64 z, .slice xa xn xc] 138)) w4.heap.size g s z xa xn xc data := by
  have hs : W1.heap.size = w.heap.size + 1 := by rw [hW]; simp
  have hz := hb4.size
  exact ⟨kb.alloc kb.size _, World.rowIs.alloc (row_of_heap (row4 w 138 _ _ _ _ _ rfl rfl rfl rfl) hW hb4) _, row4 w4 138 _ _ _ _ _ rfl rfl rfl rfl, own_mono (ho.alloc _) (by omega), by omega, own_ne (C := w.heap.size) ho (by omega)⟩
theorem made_two {w W1 w4 : World} {g s z : Int} {xa : Option Addr} {xn xc : Nat} {data : List UInt8} (hW : W1.heap = ((w.alloc (.cells #[.int .i64 0, .int .i64 0, .int .i64 0, .slice none 0 0] 138)).alloc (.cells #[.int .i64 0, .int .i64 0, .int .i64 0, .slice none 0 0] 138)).heap) (hb4 : Below W1.heap.size W1 w4) (kb : Below w.heap.size w w4)
    (ho : w4.ownsRow W1.heap.size 5 1 (.slice xa xn xc) xn (cb data)) :
    Made w ((((w4.setCell ⟨w.heap.size + 1, 0, none⟩ (.int .i64 g)).setCell ⟨w.heap.size + 1, 1, none⟩ (.int .i64 s)).setCell ⟨w.heap.size + 1, 2, none⟩ (.int .i64 z)).setCell ⟨w.heap.size + 1, 3, none⟩ (.slice xa xn xc)) (w.heap.size + 1) g s z xa xn xc data := by
  have hs : W1.heap.size = w.heap.size + 1 + 1 := by rw [hW]; simp
  have hz := hb4.size
  have r0 : w4.rowIs w.heap.size 138 4 (blkF 0 0 0 (.slice none 0 0)) := row_of_heap (World.rowIs.alloc (row4 w 138 _ _ _ _ _ rfl rfl rfl rfl) _) hW hb4
  have r1 : w4.rowIs (w.heap.size + 1) 138 4 (blkF 0 0 0 (.slice none 0 0)) := by
    have := row4 (w.alloc (.cells #[.int .i64 0, .int .i64 0, .int .i64 0, .slice none 0 0] 138)) 138 (.int .i64 0) (.int .i64 0) (.int .i64 0) (.slice none 0 0) (blkF 0 0 0 (.slice none 0 0)) rfl rfl rfl rfl
    rw [World.size_alloc] at this
    exact row_of_heap this hW hb4
  have hne : ∀ o : Nat, w.heap.size ≠ (⟨w.heap.size + 1, o, none⟩ : Addr).block := fun o => by simp
  refine ⟨(((kb.setCell (by simp) _).setCell (by simp) _).setCell (by simp) _).setCell (by simp) _, World.rowIs.setOther (World.rowIs.setOther (World.rowIs.setOther (World.rowIs.setOther r0 (hne _) _) (hne _) _) (hne _) _) (hne _) _, ?_, ?_, by omega, own_ne (C := w.heap.size) ho (by omega)⟩
  · refine (World.rowIs.set (World.rowIs.set (World.rowIs.set (World.rowIs.set r1 0 _) 1 _) 2 _) 3 _).congr ?_
    intro i hi
    unfold blkF
    match i, hi with
    | 0, _ => rfl
    | 1, _ => rfl
    | 2, _ => rfl
    | 3, _ => rfl
  · have hx : ∀ o : Nat, (Value.slice xa xn xc).ownBlock ≠ some (⟨w.heap.size + 1, o, none⟩ : Addr).block := by
      intro o
      rcases ho.2 with ⟨e, _⟩ | ⟨g', cap, cur, e, hg, _⟩
      · rw [e]; simp [Value.ownBlock]
      · rw [e]; simp [Value.ownBlock]; omega
    refine own_mono (ownsRow_setCell_other (ownsRow_setCell_other (ownsRow_setCell_other (ownsRow_setCell_other ho (hx _) _) (hx _) _) (hx _) _) (hx _) _) (by omega)
theorem row_below {w w' : World} {c : Nat} {t : TypeId} {n : Nat} {f : Nat → Value} (h : w.rowIs c t n f) (hb : Below w.heap.size w w') : w'.rowIs c t n f := World.rowIs.of_block h (hb.block c h.lt)
def four (a b c d : Value) (i : Nat) : Value := if i = 0 then a else if i = 1 then b else if i = 2 then c else d
theorem row_set4 {w : World} {B : Nat} {t : TypeId} {f : Nat → Value} (h : w.rowIs B t 4 f) (a b c d : Value) : ((((w.setCell ⟨B, 0, none⟩ a).setCell ⟨B, 1, none⟩ b).setCell ⟨B, 2, none⟩ c).setCell ⟨B, 3, none⟩ d).rowIs B t 4 (four a b c d) := by
  refine (World.rowIs.set (World.rowIs.set (World.rowIs.set (World.rowIs.set h 0 _) 1 _) 2 _) 3 _).congr ?_
  intro i hi
  unfold four
  match i, hi with
  | 0, _ => rfl
  | 1, _ => rfl
  | 2, _ => rfl
  | 3, _ => rfl
theorem load4 {w : World} {B : Nat} {a b c d : Value} (h : w.rowIs B 138 4 (four a b c d)) : (loadVar 138 ⟨B, 0, none⟩).run Try.prog w = .ok (.agg #[a, b, c, d]) w := by
  have c0 : w.cell? ⟨B, 0, none⟩ = some a := h.cell (by decide)
  have c1 : w.cell? ⟨B, 1, none⟩ = some b := h.cell (by decide)
  have c2 : w.cell? ⟨B, 2, none⟩ = some c := h.cell (by decide)
  have c3 : w.cell? ⟨B, 3, none⟩ = some d := h.cell (by decide)
  go_simp
/-- Parse tells R. -/
def PTells (R : Blk.PR) (w : World) (e : Ending) (w' : World) : Prop :=
  ∃ a cap, e = .returned (.tuple #[.agg #[.int .i64 R.g, .int .i64 R.s, .int .i64 R.z, .slice a R.data.length cap], .int .i64 R.err]) ∧ Below w.heap.size w w' ∧ w'.ownsRow w.heap.size 5 1 (.slice a R.data.length cap) R.data.length (cb R.data)
theorem parse_post {R : Blk.PR} {w W5 : World} {act : Act} {x : Value} {E : Int} {g s z : Int} (hp : act.tmps.getD 2 undef = .pointer (some ⟨w.heap.size, 0, none⟩)) (h3 : act.tmps.getD 3 undef = .int .i64 E) (hd : act.defers = [])
    {f : Nat → Value} (r5 : W5.rowIs w.heap.size 138 4 f) (hR : PTells R w (.returned (.tuple #[.agg #[.int .i64 g, .int .i64 s, .int .i64 z, x], .int .i64 E])) ((((W5.setCell ⟨w.heap.size, 0, none⟩ (.int .i64 g)).setCell ⟨w.heap.size, 1, none⟩ (.int .i64 s)).setCell ⟨w.heap.size, 2, none⟩ (.int .i64 z)).setCell ⟨w.heap.size, 3, none⟩ x)) :
    bodyPost Try.prog Try.f95 (PTells R w) .ret act ((((W5.setCell ⟨w.heap.size, 0, none⟩ (.int .i64 g)).setCell ⟨w.heap.size, 1, none⟩ (.int .i64 s)).setCell ⟨w.heap.size, 2, none⟩ (.int .i64 z)).setCell ⟨w.heap.size, 3, none⟩ x) := by
  have hl := load4 (row_set4 r5 (.int .i64 g) (.int .i64 s) (.int .i64 z) x)
  generalize ((((W5.setCell ⟨w.heap.size, 0, none⟩ (.int .i64 g)).setCell ⟨w.heap.size, 1, none⟩ (.int .i64 s)).setCell ⟨w.heap.size, 2, none⟩ (.int .i64 z)).setCell ⟨w.heap.size, 3, none⟩ x) = W6 at *
  refine bodyPost_ret ?_ hd hR
  unfold results
  rw [Try.results95]
  rw [Array.getD_eq_getD_getElem?] at hp h3
  simp [hp, h3, hl, asAddr]
theorem perr {w W5 : World} {E : Int} (hb : Below w.heap.size w W5) : PTells ⟨E, 0, 0, 0, []⟩ w (.returned (.tuple #[.agg #[.int .i64 0, .int .i64 0, .int .i64 0, .slice none 0 0], .int .i64 E])) ((((W5.setCell ⟨w.heap.size, 0, none⟩ (.int .i64 0)).setCell ⟨w.heap.size, 1, none⟩ (.int .i64 0)).setCell ⟨w.heap.size, 2, none⟩ (.int .i64 0)).setCell ⟨w.heap.size, 3, none⟩ (.slice none 0 0)) :=
  ⟨none, 0, rfl, (((hb.setCell (Nat.le_refl _) _).setCell (Nat.le_refl _) _).setCell (Nat.le_refl _) _).setCell (Nat.le_refl _) _, World.ownsRow_nil _ _ _ _⟩
theorem pok {w W5 : World} {g s z m : Nat} {xa : Option Addr} {xc : Nat} {data : List UInt8} (hn : data.length = m) (hb : Below w.heap.size w W5) (hne : (Value.slice xa m xc).ownBlock ≠ some w.heap.size) (ho : W5.ownsRow w.heap.size 5 1 (.slice xa m xc) m (cb data)) : PTells ⟨0, g, s, z, data⟩ w (.returned (.tuple #[.agg #[.int .i64 g, .int .i64 s, .int .i64 z, .slice xa m xc], .int .i64 0])) ((((W5.setCell ⟨w.heap.size, 0, none⟩ (.int .i64 g)).setCell ⟨w.heap.size, 1, none⟩ (.int .i64 s)).setCell ⟨w.heap.size, 2, none⟩ (.int .i64 z)).setCell ⟨w.heap.size, 3, none⟩ (.slice xa m xc)) := by
  subst hn
  have hx : ∀ o : Nat, (Value.slice xa data.length xc).ownBlock ≠ some (⟨w.heap.size, o, none⟩ : Addr).block := fun o => hne
  exact ⟨xa, xc, rfl, (((hb.setCell (Nat.le_refl _) _).setCell (Nat.le_refl _) _).setCell (Nat.le_refl _) _).setCell (Nat.le_refl _) _, ownsRow_setCell_other (ownsRow_setCell_other (ownsRow_setCell_other (ownsRow_setCell_other ho (hx _) _) (hx _) _) (hx _) _) (hx _) _⟩
set_option maxRecDepth 100000 in
set_option maxHeartbeats 4000000 in
theorem bParse_short (a : Option Addr) (n cap : Nat) (l : List UInt8) (w : World) (h : Bt w a n cap l) (h12 : n < 12) :
    Calls Try.prog 95 #[.slice a n cap] w (PTells (Blk.parse l) w) := by
  have hle := h.le
  have hmax := h.max
  unfold maxLen at hmax
  have HL := hid (Bt.n h)
  have d1 : decide ((n : Int) - 4 < 8) = true := by simp; omega
  go_enter Try.func95, Try.ntmps95
  go_wp2
  go_quiet (fail)
  go_wp2
  have HR := Blk.parse_form l (.inl (by rw [HL.out]; exact h12))
  rw [HR]
  exact parse_post rfl rfl rfl (row4 w 138 _ _ _ _ (four _ _ _ _) rfl rfl rfl rfl) (perr (below_drewN ((Below.refl _ _).alloc (Nat.le_refl _) _) _))
set_option maxRecDepth 100000 in
set_option maxHeartbeats 4000000 in
theorem bParse_first (a : Option Addr) (n cap : Nat) (l : List UInt8) (w : World) (h : Bt w a n cap l) (h12 : ¬ n < 12) (h0 : at8 l 0 ≠ 83) :
    Calls Try.prog 95 #[.slice a n cap] w (PTells (Blk.parse l) w) := by
  have hle := h.le
  have hmax := h.max
  unfold maxLen at hmax
  have HL := hid (Bt.n h)
  obtain ⟨K, rfl⟩ : ∃ K, n = K + 4 := ⟨n - 4, by omega⟩
  obtain ⟨b, off, rfl, _⟩ := h.addr (by omega)
  have d1 : decide ((K : Int) < 8) = false := by simp; omega
  have hbl := Sl.lt h (by omega) (by decide)
  have e0 : w.cell? ⟨b, off, none⟩ = some (.int .u8 (at8 l 0)) := Bt.at h 0 (by omega)
  have e5 := Bt.at h 5 (by omega)
  have e6 := Bt.at h 6 (by omega)
  have l5 := at8_lt l 5
  have l6 := at8_lt l 6
  have i0 : (0 : Int) < ((K + 4 : Nat) : Int) := by omega
  have i5 : (5 : Int) < ((K + 4 : Nat) : Int) := by omega
  have i6 : (6 : Int) < ((K + 4 : Nat) : Int) := by omega
  have ho := i64_or8 _ _ l5 l6
  have d2 : (((at8 l 0 : Nat) : Int) != 83) = true := by rw [bne_iff_ne]; omega
  have HM0 := hid h0
  clear h0
  go_enter Try.func95, Try.ntmps95
  go_wp2
  go_quiet (fail)
  go_wp2
  have HR := Blk.parse_form l (.inr (.inl HM0.out))
  rw [HR]
  exact parse_post rfl rfl rfl (row4 _ 138 _ _ _ _ (four _ _ _ _) rfl rfl rfl rfl) (perr (below_drewN ((Below.refl _ _).alloc (Nat.le_refl _) _) _))
set_option maxRecDepth 100000 in
set_option maxHeartbeats 4000000 in
theorem bParse_len (a : Option Addr) (n cap : Nat) (l : List UInt8) (w : World) (h : Bt w a n cap l) (h12 : ¬ n < 12) (h0 : at8 l 0 = 83) (hk : 256 * at8 l 5 + at8 l 6 + 11 ≠ n) :
    Calls Try.prog 95 #[.slice a n cap] w (PTells (Blk.parse l) w) := by
  have hle := h.le
  have hmax := h.max
  unfold maxLen at hmax
  have HL := hid (Bt.n h)
  obtain ⟨K, rfl⟩ : ∃ K, n = K + 4 := ⟨n - 4, by omega⟩
  obtain ⟨b, off, rfl, _⟩ := h.addr (by omega)
  have d1 : decide ((K : Int) < 8) = false := by simp; omega
  have hbl := Sl.lt h (by omega) (by decide)
  have e0 : w.cell? ⟨b, off, none⟩ = some (.int .u8 (at8 l 0)) := Bt.at h 0 (by omega)
  have e5 := Bt.at h 5 (by omega)
  have e6 := Bt.at h 6 (by omega)
  have l5 := at8_lt l 5
  have l6 := at8_lt l 6
  have i0 : (0 : Int) < ((K + 4 : Nat) : Int) := by omega
  have i5 : (5 : Int) < ((K + 4 : Nat) : Int) := by omega
  have i6 : (6 : Int) < ((K + 4 : Nat) : Int) := by omega
  have ho := i64_or8 _ _ l5 l6
  have d2 : (((at8 l 0 : Nat) : Int) != 83) = false := by rw [h0]; rfl
  have HM0 := hid h0
  clear h0
  obtain ⟨M, hM⟩ : ∃ M, 256 * at8 l 5 + at8 l 6 = M := ⟨_, rfl⟩
  have hMl : M ≤ 65535 := by rw [← hM]; omega
  rw [hM] at ho
  have HM := hid hM
  clear hM
  have hk : ¬ M + 7 = K := by have := HM.out; omega
  have d3 : ((M : Int) != (K : Int) - 7) = true := by rw [bne_iff_ne]; omega
  have HK := hid hk
  clear hk
  go_enter Try.func95, Try.ntmps95
  go_wp2
  go_quiet (fail)
  go_wp2
  have HR := Blk.parse_form l (.inr (.inr (by rw [HM.out, HL.out]; have := HK.out; omega)))
  rw [HR]
  exact parse_post rfl rfl rfl (row4 _ 138 _ _ _ _ (four _ _ _ _) rfl rfl rfl rfl) (perr (below_drewN ((Below.refl _ _).alloc (Nat.le_refl _) _) _))
set_option maxRecDepth 100000 in
set_option maxHeartbeats 4000000 in
theorem bParse_sums (a : Option Addr) (n cap : Nat) (l : List UInt8) (w : World) (h : Bt w a n cap l) (h12 : ¬ n < 12) (h0 : at8 l 0 = 83) (hk : 256 * at8 l 5 + at8 l 6 + 11 = n) (hS : Blk.rd4 l (n - 4) ≠ Crc.sum (l.take (n - 4))) :
    Calls Try.prog 95 #[.slice a n cap] w (PTells (Blk.parse l) w) := by
  have hle := h.le
  have hmax := h.max
  unfold maxLen at hmax
  have HL := hid (Bt.n h)
  obtain ⟨K, rfl⟩ : ∃ K, n = K + 4 := ⟨n - 4, by omega⟩
  obtain ⟨b, off, rfl, _⟩ := h.addr (by omega)
  have d1 : decide ((K : Int) < 8) = false := by simp; omega
  have hbl := Sl.lt h (by omega) (by decide)
  have e0 : w.cell? ⟨b, off, none⟩ = some (.int .u8 (at8 l 0)) := Bt.at h 0 (by omega)
  have e5 := Bt.at h 5 (by omega)
  have e6 := Bt.at h 6 (by omega)
  have l5 := at8_lt l 5
  have l6 := at8_lt l 6
  have i0 : (0 : Int) < ((K + 4 : Nat) : Int) := by omega
  have i5 : (5 : Int) < ((K + 4 : Nat) : Int) := by omega
  have i6 : (6 : Int) < ((K + 4 : Nat) : Int) := by omega
  have ho := i64_or8 _ _ l5 l6
  have d2 : (((at8 l 0 : Nat) : Int) != 83) = false := by rw [h0]; rfl
  have HM0 := hid h0
  clear h0
  obtain ⟨M, hM⟩ : ∃ M, 256 * at8 l 5 + at8 l 6 = M := ⟨_, rfl⟩
  have hMl : M ≤ 65535 := by rw [← hM]; omega
  rw [hM] at ho
  have HM := hid hM
  clear hM
  have hk : M + 7 = K := by have := HM.out; omega
  have d3 : ((M : Int) != (K : Int) - 7) = false := by simp; omega
  have hKl : K ≤ 65542 := by omega
  have HK := hid hk
  clear hk
  have q0 := Bt.at h K (by omega)
  have q1 := Bt.at h (K + 1) (by omega)
  have q2 := Bt.at h (K + 2) (by omega)
  have q3 := Bt.at h (K + 3) (by omega)
  have f1 : IntKind.i64.wrap ((K : Int) + 1) = (K : Int) + 1 := IntWalk.i64_in _ (by omega)
  have f2 : IntKind.i64.wrap ((K : Int) + 2) = (K : Int) + 2 := IntWalk.i64_in _ (by omega)
  have f3 : IntKind.i64.wrap ((K : Int) + 3) = (K : Int) + 3 := IntWalk.i64_in _ (by omega)
  have t1 : ((K : Int) + 1).toNat = K + 1 := by omega
  have t2 : ((K : Int) + 2).toNat = K + 2 := by omega
  have t3 : ((K : Int) + 3).toNat = K + 3 := by omega
  have z1 : (0 : Int) ≤ (K : Int) + 1 := by omega
  have z2 : (0 : Int) ≤ (K : Int) + 2 := by omega
  have z3 : (0 : Int) ≤ (K : Int) + 3 := by omega
  have L0 := at8_lt l K
  have L1 := at8_lt l (K + 1)
  have L2 := at8_lt l (K + 2)
  have L3 := at8_lt l (K + 3)
  obtain ⟨y1, y2, R, r1, r2, r3, hR⟩ := u32_join _ _ _ _ L0 L1 L2 L3
  have HR := hid hR
  clear hR
  have hS : ¬ R = Crc.sum (l.take K) := by have := HR.out; rw [this]; exact hS
  have d4 : ((R : Int) != ((Crc.sum (l.take K) : Nat) : Int)) = true := by rw [bne_iff_ne]; omega
  have HS := hid hS
  clear hS
  go_enter Try.func95, Try.ntmps95
  go_wp2
  go_quiet (fail)
  go_wp2
  go_quiet (fail)
  go_wp2_with (go_at_call 103; refine (Sum_call _ _ _ (l.take K) _ ((Bt.take h (by omega)).below ?_)).mono ?_; exact ((Below.refl _ _).alloc (Nat.le_refl _) _).trans ⟨rfl, rfl, rfl, Nat.le_refl _, fun _ _ => rfl⟩; rintro e w3 ⟨rfl, rfl⟩)
  rw [Blk.parse_sum l K (by rw [HL.out]) (by omega) HM0.out (by rw [HM.out]; exact HK.out) (by have := HR.out; unfold Blk.rd4; rw [← this]; exact HS.out)]
  exact parse_post rfl rfl rfl (row4 _ 138 _ _ _ _ (four _ _ _ _) rfl rfl rfl rfl) (perr (below_drewN ((Below.refl _ _).alloc (Nat.le_refl _) _) _))
set_option maxRecDepth 100000 in
set_option maxHeartbeats 4000000 in
theorem bParse_rest (a : Option Addr) (n cap : Nat) (l : List UInt8) (w : World) (h : Bt w a n cap l) (h12 : ¬ n < 12) (h0 : at8 l 0 = 83) (hk : 256 * at8 l 5 + at8 l 6 + 11 = n) (hS : Blk.rd4 l (n - 4) = Crc.sum (l.take (n - 4))) :
    Calls Try.prog 95 #[.slice a n cap] w (PTells (Blk.parse l) w) := by
  have hle := h.le
  have hmax := h.max
  unfold maxLen at hmax
  have HL := hid (Bt.n h)
  obtain ⟨K, rfl⟩ : ∃ K, n = K + 4 := ⟨n - 4, by omega⟩
  obtain ⟨b, off, rfl, _⟩ := h.addr (by omega)
  have d1 : decide ((K : Int) < 8) = false := by simp; omega
  have hbl := Sl.lt h (by omega) (by decide)
  have e0 : w.cell? ⟨b, off, none⟩ = some (.int .u8 (at8 l 0)) := Bt.at h 0 (by omega)
  have e5 := Bt.at h 5 (by omega)
  have e6 := Bt.at h 6 (by omega)
  have l5 := at8_lt l 5
  have l6 := at8_lt l 6
  have i0 : (0 : Int) < ((K + 4 : Nat) : Int) := by omega
  have i5 : (5 : Int) < ((K + 4 : Nat) : Int) := by omega
  have i6 : (6 : Int) < ((K + 4 : Nat) : Int) := by omega
  have ho := i64_or8 _ _ l5 l6
  have d2 : (((at8 l 0 : Nat) : Int) != 83) = false := by rw [h0]; rfl
  have HM0 := hid h0
  clear h0
  obtain ⟨M, hM⟩ : ∃ M, 256 * at8 l 5 + at8 l 6 = M := ⟨_, rfl⟩
  have hMl : M ≤ 65535 := by rw [← hM]; omega
  rw [hM] at ho
  have HM := hid hM
  clear hM
  have hk : M + 7 = K := by have := HM.out; omega
  have d3 : ((M : Int) != (K : Int) - 7) = false := by simp; omega
  have hKl : K ≤ 65542 := by omega
  have HK := hid hk
  clear hk
  have q0 := Bt.at h K (by omega)
  have q1 := Bt.at h (K + 1) (by omega)
  have q2 := Bt.at h (K + 2) (by omega)
  have q3 := Bt.at h (K + 3) (by omega)
  have f1 : IntKind.i64.wrap ((K : Int) + 1) = (K : Int) + 1 := IntWalk.i64_in _ (by omega)
  have f2 : IntKind.i64.wrap ((K : Int) + 2) = (K : Int) + 2 := IntWalk.i64_in _ (by omega)
  have f3 : IntKind.i64.wrap ((K : Int) + 3) = (K : Int) + 3 := IntWalk.i64_in _ (by omega)
  have t1 : ((K : Int) + 1).toNat = K + 1 := by omega
  have t2 : ((K : Int) + 2).toNat = K + 2 := by omega
  have t3 : ((K : Int) + 3).toNat = K + 3 := by omega
  have z1 : (0 : Int) ≤ (K : Int) + 1 := by omega
  have z2 : (0 : Int) ≤ (K : Int) + 2 := by omega
  have z3 : (0 : Int) ≤ (K : Int) + 3 := by omega
  have L0 := at8_lt l K
  have L1 := at8_lt l (K + 1)
  have L2 := at8_lt l (K + 2)
  have L3 := at8_lt l (K + 3)
  obtain ⟨y1, y2, R, r1, r2, r3, hR⟩ := u32_join _ _ _ _ L0 L1 L2 L3
  have HR := hid hR
  clear hR
  have hS : R = Crc.sum (l.take K) := by have := HR.out; rw [this]; exact hS
  have d4 : ((R : Int) != ((Crc.sum (l.take K) : Nat) : Int)) = false := by rw [hS]; simp
  have HS := hid hS
  clear hS
  have v1 := Bt.at h 1 (by omega)
  have v2 := Bt.at h 2 (by omega)
  have v3 := Bt.at h 3 (by omega)
  have v4 := Bt.at h 4 (by omega)
  have j1 := at8_lt l 1
  have j2 := at8_lt l 2
  have j3 := at8_lt l 3
  have j4 := at8_lt l 4
  have o2 := i64_or8 _ _ j3 j4
  obtain ⟨Z, hZ⟩ : ∃ Z, 256 * at8 l 3 + at8 l 4 = Z := ⟨_, rfl⟩
  rw [hZ] at o2
  have HZ := hid hZ
  clear hZ
  have i1 : (1 : Int) < ((K + 4 : Nat) : Int) := by omega
  have i2 : (2 : Int) < ((K + 4 : Nat) : Int) := by omega
  have i3 : (3 : Int) < ((K + 4 : Nat) : Int) := by omega
  have i4 : (4 : Int) < ((K + 4 : Nat) : Int) := by omega
  have i7 : (7 : Int) ≤ (K : Int) := by omega
  have m1 : (1 : Int) < (K : Int) + 4 := by omega
  have m2 : (2 : Int) < (K : Int) + 4 := by omega
  have m3 : (3 : Int) < (K : Int) + 4 := by omega
  have m4 : (4 : Int) < (K : Int) + 4 := by omega
  have n1 : 1 < K + 4 := by omega
  have y1 : IntKind.i64.wrap ((at8 l 1 : Nat) : Int) = ((at8 l 1 : Nat) : Int) := IntWalk.i64_in _ (by omega)
  have y2 : IntKind.i64.wrap ((at8 l 2 : Nat) : Int) = ((at8 l 2 : Nat) : Int) := IntWalk.i64_in _ (by omega)
  have y3 : IntKind.i64.wrap ((at8 l 3 : Nat) : Int) = ((at8 l 3 : Nat) : Int) := IntWalk.i64_in _ (by omega)
  have y4 : IntKind.i64.wrap ((at8 l 4 : Nat) : Int) = ((at8 l 4 : Nat) : Int) := IntWalk.i64_in _ (by omega)
  have y5 : IntKind.i64.wrap (((at8 l 3 : Nat) : Int) * 256) = ((at8 l 3 : Nat) : Int) * 256 := IntWalk.i64_in _ (by omega)
  have hbn : b ≠ w.heap.size + 1 := by omega
  have hkeep : ∀ (W : World) (o p : Nat) (v : Value), (W.setCell ⟨w.heap.size + 1, p, none⟩ v).cell? ⟨b, o, none⟩ = W.cell? ⟨b, o, none⟩ := fun W o p v => cell_other_block _ (by simp; omega)
  have n2 : 2 < K + 4 := by omega
  have n3 : 3 < K + 4 := by omega
  have n4 : 4 < K + 4 := by omega
  have n5 : K ≤ cap := by omega
  have n6 : (K : Int) ≤ (cap : Int) := by omega
  have n7 : (0 : Int) ≤ (K : Int) := by omega
  have n8 : 7 ≤ K := by omega
  have n9 : ¬ cap = 7 := by omega
  have hsl : Bt w (some ⟨b, off + 7, none⟩) (K - 7) (cap - 7) ((l.drop 7).take (K - 7)) := by
    have := Bt.slice h (lo := 7) (hi := K) (by omega) (by omega)
    rw [if_neg n9] at this
    simpa [add_off] using this
  have HC := hid (show ∀ W1, Below w.heap.size w W1 → Calls Try.prog 85 #[.slice (some ⟨b, off + 7, none⟩) (K - 7) (cap - 7)] W1 (fun e w4 => ∃ xa xc, e = .returned (.slice xa (K - 7) xc) ∧ Below w.heap.size w w4 ∧ Below W1.heap.size W1 w4 ∧ w4.ownsRow W1.heap.size 5 1 (.slice xa (K - 7) xc) (K - 7) (cb ((l.drop 7).take (K - 7))) ∧
      w4.cell? ⟨b, off + 1, none⟩ = some (.int .u8 (at8 l 1)) ∧ w4.cell? ⟨b, off + 2, none⟩ = some (.int .u8 (at8 l 2)) ∧ w4.cell? ⟨b, off + 3, none⟩ = some (.int .u8 (at8 l 3)) ∧ w4.cell? ⟨b, off + 4, none⟩ = some (.int .u8 (at8 l 4)) ∧ (w.heap.size + 1 < W1.heap.size → ∀ o, w4.cell? ⟨w.heap.size + 1, o, none⟩ = W1.cell? ⟨w.heap.size + 1, o, none⟩ ∧ w4.frozen? ⟨w.heap.size + 1, o, none⟩ = W1.frozen? ⟨w.heap.size + 1, o, none⟩)) from fun W1 hb =>
    (cloneBytes_call _ _ _ _ W1 (hsl.below hb) (by omega)).mono fun e w4 ⟨x4, he, hb4, ho4⟩ =>
      have kb := bnext hb hb4
      let ⟨xa, xc, hx, _⟩ := own_sl ho4
      ⟨xa, xc, hx ▸ he, kb, hb4, hx ▸ ho4, (kb.cell (p := ⟨b, off + 1, none⟩) hbl).trans v1, (kb.cell (p := ⟨b, off + 2, none⟩) hbl).trans v2, (kb.cell (p := ⟨b, off + 3, none⟩) hbl).trans v3, (kb.cell (p := ⟨b, off + 4, none⟩) hbl).trans v4, fun hs o => ⟨hb4.cell (p := ⟨w.heap.size + 1, o, none⟩) hs, hb4.frozen (p := ⟨w.heap.size + 1, o, none⟩) hs⟩⟩)
  go_enter Try.func95, Try.ntmps95
  go_wp2
  go_quiet (fail)
  go_wp2
  go_quiet (fail)
  go_upto_region 7 with (go_at_call 103; refine (Sum_call _ _ _ (l.take K) _ ((Bt.take h (by omega)).below ?_)).mono ?_; exact ((Below.refl _ _).alloc (Nat.le_refl _) _).trans ⟨rfl, rfl, rfl, Nat.le_refl _, fun _ _ => rfl⟩; rintro e w3 ⟨rfl, rfl⟩)
  go_cut [6] (fun s6 wc => ∃ c xa xc, s6 = .pointer (some ⟨c, 0, none⟩) ∧ Made w wc c (at8 l 1) (at8 l 2) Z xa (K - 7) xc ((l.drop 7).take (K - 7)))
  case first =>
    go_region_held3 (fun w' => w'.cell? ⟨b, off + 1, none⟩ = some (.int .u8 (at8 l 1)) ∧ w'.cell? ⟨b, off + 2, none⟩ = some (.int .u8 (at8 l 2)) ∧ w'.cell? ⟨b, off + 3, none⟩ = some (.int .u8 (at8 l 3)) ∧ w'.cell? ⟨b, off + 4, none⟩ = some (.int .u8 (at8 l 4))) (first | exact ⟨k1, k2, k3, k4⟩ | go_keep)
      (first | (go_at_call 85; refine (HC.out _ ?_).mono ?_; (repeat (first | exact Below.refl _ _ | refine below_drewN ?_ _ | refine Below.drew ?_ | refine Below.alloc ?_ (by simp) _)); rintro e w4 ⟨xa, xc, rfl, kb, hb4, ho4, k1, k2, k3, k4, hz⟩; (try simp at hz)))
    all_goals (go_wp2_with fail; go_meet)
    · exact ⟨_, _, _, rfl, by refine made_one ?_ hb4 kb ho4; rfl⟩
    · exact ⟨_, _, _, rfl, by refine made_two ?_ hb4 kb ho4; rfl⟩
  case rest =>
    obtain ⟨c, xa, xc, rfl, hmd⟩ := hcut
    have c0 : wc.cell? ⟨c, 0, none⟩ = some (.int .i64 (at8 l 1)) := hmd.out.cell (by decide)
    have c1 : wc.cell? ⟨c, 1, none⟩ = some (.int .i64 (at8 l 2)) := hmd.out.cell (by decide)
    have c2 : wc.cell? ⟨c, 2, none⟩ = some (.int .i64 Z) := hmd.out.cell (by decide)
    have c3 : wc.cell? ⟨c, 3, none⟩ = some (.slice xa (K - 7) xc) := hmd.out.cell (by decide)
    have HMD := hid hmd
    have hW := bWrong_call (at8 l 1) (at8 l 2) Z xa (K - 7) xc (by have := own_sl hmd.own; obtain ⟨_, _, e, hs⟩ := this; cases e; exact hs.le) (by have := own_sl hmd.own; obtain ⟨_, _, e, hs⟩ := this; cases e; exact hs.max)
    obtain ⟨E, hE⟩ : ∃ E, Blk.wrong (at8 l 1) (at8 l 2) Z (K - 7) = E := ⟨_, rfl⟩
    rw [hE] at hW
    have HW := hid hW
    have HE := hid hE
    clear hW hE
    by_cases hz : E = 0
    · subst hz
      go_wp2_with (go_at_call 102; refine (HW.out _).mono ?_; rintro e w5 ⟨rfl, hb5⟩; have r5 := row_below HMD.out.res hb5; have g0 : w5.cell? ⟨w.heap.size, 0, none⟩ = some (.int .i64 0) := r5.cell (by decide); have g1 : w5.cell? ⟨w.heap.size, 1, none⟩ = some (.int .i64 0) := r5.cell (by decide); have g2 : w5.cell? ⟨w.heap.size, 2, none⟩ = some (.int .i64 0) := r5.cell (by decide); have g3 : w5.cell? ⟨w.heap.size, 3, none⟩ = some (.slice none 0 0) := r5.cell (by decide); have gf : ∀ o, w5.frozen? ⟨w.heap.size, o, none⟩ = false := r5.frozen; have r6 := row_below HMD.out.out hb5; have k0 : w5.cell? ⟨c, 0, none⟩ = some (.int .i64 (at8 l 1)) := r6.cell (by decide); have k1 : w5.cell? ⟨c, 1, none⟩ = some (.int .i64 (at8 l 2)) := r6.cell (by decide); have k2 : w5.cell? ⟨c, 2, none⟩ = some (.int .i64 Z) := r6.cell (by decide); have k3 : w5.cell? ⟨c, 3, none⟩ = some (.slice xa (K - 7) xc) := r6.cell (by decide))
      rw [Blk.parse_ok l K (by rw [HL.out]) (by omega) HM0.out (by rw [HM.out]; exact HK.out) (by have := HR.out; unfold Blk.rd4; rw [← this]; exact HS.out) (by rw [HZ.out, HE.out]), HZ.out]
      exact parse_post rfl rfl rfl r5 (pok (by rw [List.length_take, List.length_drop]; have := HL.out; omega) (bnext HMD.out.below hb5) HMD.out.ne (own_below HMD.out.own hb5))
    · have hz0 : (E != 0) = true := by rw [bne_iff_ne]; exact hz
      go_wp2_with (go_at_call 102; refine (HW.out _).mono ?_; rintro e w5 ⟨rfl, hb5⟩; have r5 := row_below HMD.out.res hb5; have g0 : w5.cell? ⟨w.heap.size, 0, none⟩ = some (.int .i64 0) := r5.cell (by decide); have g1 : w5.cell? ⟨w.heap.size, 1, none⟩ = some (.int .i64 0) := r5.cell (by decide); have g2 : w5.cell? ⟨w.heap.size, 2, none⟩ = some (.int .i64 0) := r5.cell (by decide); have g3 : w5.cell? ⟨w.heap.size, 3, none⟩ = some (.slice none 0 0) := r5.cell (by decide); have gf : ∀ o, w5.frozen? ⟨w.heap.size, o, none⟩ = false := r5.frozen)
      rw [Blk.parse_wrong l K (by rw [HL.out]) (by omega) HM0.out (by rw [HM.out]; exact HK.out) (by have := HR.out; unfold Blk.rd4; rw [← this]; exact HS.out) (by rw [HZ.out, HE.out]; exact hz), HZ.out, HE.out]
      exact parse_post rfl rfl rfl r5 (perr (bnext HMD.out.below hb5))
theorem bParse_call (a : Option Addr) (n cap : Nat) (l : List UInt8) (w : World) (h : Bt w a n cap l) :
    Calls Try.prog 95 #[.slice a n cap] w (PTells (Blk.parse l) w) := by
  by_cases h12 : n < 12
  · exact bParse_short a n cap l w h h12
  by_cases h0 : at8 l 0 = 83
  · by_cases hk : 256 * at8 l 5 + at8 l 6 + 11 = n
    · by_cases hS : Blk.rd4 l (n - 4) = Crc.sum (l.take (n - 4))
      · exact bParse_rest a n cap l w h h12 h0 hk hS
      · exact bParse_sums a n cap l w h h12 h0 hk hS
    · exact bParse_len a n cap l w h h12 h0 hk
  · exact bParse_first a n cap l w h h12 h0
end Go.Proofs.Ythhcdfjijagalaa
