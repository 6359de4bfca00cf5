/- Joined, and what is not used struck: StoK, EventE, EventC. -/
import Derived.Test.YthhcdfjijagalaaM19
import Derived.Test.YthhcdfjijagalaaM20
import Derived.Test.YthhcdfjijagalaaM11
import Derived.Test.YthhcdfjijagalaaM03
import Derived.Test.YthhcdfjijagalaaM17
import Derived.Test.YthhcdfjijagalaaM06
namespace Go.Proofs.Ythhcdfjijagalaa
open Go.RowKit
set_option linter.unusedVariables false
set_option linter.unusedSimpArgs false
set_option maxRecDepth 100000
theorem dm_at {w : World} {b off n cap : Nat} {D : List Dm} (h : Sl w 2 (some ⟨b, off, none⟩) n cap (rows dm2 D)) (i : Nat) (hi : i < D.length) : w.cell? ⟨b, off + i * 2, none⟩ = some (.bool D[i].g) ∧ w.cell? ⟨b, off + i * 2 + 1, none⟩ = some (.slice D[i].a D[i].H.length D[i].cap) := by
  have hl := h.len
  rw [rows_length dm2_len] at hl
  have g0 : (rows dm2 D)[i * 2 + 0]? = some (.bool D[i].g) := rows_get dm2_len D i 0 hi (by decide)
  have g1 : (rows dm2 D)[i * 2 + 1]? = some (.slice D[i].a D[i].H.length D[i].cap) := rows_get dm2_len D i 1 hi (by decide)
  exact ⟨h.cell (by omega) g0, h.cell (by omega) g1⟩
theorem find_some {H : List Hm} {k : Int} {i : Nat} (hi : i < H.length) (h1 : H[i].s = k) (h2 : ∀ j (h : j < H.length), j < i → H[j].s ≠ k) : Sto.find (H.map Hm.hd) k = some H[i].b := by
  induction H generalizing i with
  | nil => exact absurd hi (by simp)
  | cons x H ih =>
    rw [List.map_cons]
    unfold Sto.find
    cases i with
    | zero => rw [if_pos (by exact h1)]; rfl
    | succ i =>
      rw [if_neg (by exact h2 0 (by simp) (by omega))]
      exact ih (by simpa using hi) h1 (fun j hj hji => h2 (j + 1) (by simpa using hj) (by omega))
theorem find_none {H : List Hm} {k : Int} (h2 : ∀ j (h : j < H.length), H[j].s ≠ k) : Sto.find (H.map Hm.hd) k = none := by
  induction H with
  | nil => rfl
  | cons x H ih =>
    rw [List.map_cons]
    unfold Sto.find
    rw [if_neg (by exact h2 0 (by simp))]
    exact ih (fun j hj => h2 (j + 1) (by simpa using hj))
theorem blk_gone {x : Dm} {k : Int} (h : x.g = true) : Sto.blockOf x.dk k = [] := by unfold Sto.blockOf; rw [if_pos (by exact h)]
theorem blk_none {x : Dm} {k : Int} (h : x.g = false) (h2 : Sto.find (x.H.map Hm.hd) k = none) : Sto.blockOf x.dk k = [] := by
  unfold Sto.blockOf
  rw [if_neg (by show ¬ x.g = true; rw [h]; decide)]
  show (Sto.find (x.H.map Hm.hd) k).getD [] = []
  rw [h2]; rfl
theorem blk_some {x : Dm} {k : Int} {b : List UInt8} (h : x.g = false) (h2 : Sto.find (x.H.map Hm.hd) k = some b) : Sto.blockOf x.dk k = b := by
  unfold Sto.blockOf
  rw [if_neg (by show ¬ x.g = true; rw [h]; decide)]
  show (Sto.find (x.H.map Hm.hd) k).getD [] = b
  rw [h2]; rfl
theorem blocks_take (D : List Dm) (k : Int) (j : Nat) (hj : j < D.length) (L : List (List UInt8)) (h : L = (Sto.blocks (D.map Dm.dk) k).take j) (b : List UInt8) (hb : Sto.blockOf D[j].dk k = b) : L ++ [b] = (Sto.blocks (D.map Dm.dk) k).take (j + 1) := by
  have e : (Sto.blocks (D.map Dm.dk) k)[j]? = some b := by simp [Sto.blocks, hj, hb]
  rw [h, List.take_add_one, e]; rfl
set_option maxHeartbeats 4000000 in
theorem stblocks_call (base p : Nat) (m : Mst) (k : Int) (w : World) (h : StR w base p m) (hlim : m.D.length ≤ 1000) :
    Calls Try.prog 65 #[.pointer (some ⟨p, 0, none⟩), .int .i64 k] w fun e w' => ∃ a cap R, e = .returned (.slice a m.D.length cap) ∧ Ms w' a m.D.length cap R ∧ rwData R = Sto.blocks (m.D.map Dm.dk) k ∧ Below w.heap.size w w' := by
  obtain ⟨da, dc, hdv, hd⟩ := own_sl h.dks
  have hlt := h.lt
  have hb3 := blk_cell (i := 3) (blk_old (o' := .cells #[.int .i64 k] 3) h.box)
  change _ = some m.dv at hb3
  rw [hdv] at hb3
  have hH := h.held
  have hY := h.bytes
  clear h hdv
  generalize m.D = D at *
  obtain ⟨n, hn⟩ : ∃ n, n = D.length := ⟨_, rfl⟩
  rw [← hn] at hd hlim hb3 ⊢
  have q3 : (w.alloc (.cells #[.int .i64 k] 3)).cell? ⟨p, 3, none⟩ = some (.slice da n dc) := by
    exact hb3
  have HD := hid (hd.alloc (.cells #[.int .i64 k] 3))
  have HB := hid (blk_new w (.cells #[.int .i64 k] 3))
  have HH := hid (fun x (hx : x ∈ D) => own_below (hH x hx) ((Below.refl w.heap.size w).alloc (Nat.le_refl _) (.cells #[.int .i64 k] 3)))
  have HY := hid (fun x (hx : x ∈ D) y (hy : y ∈ x.H) => own_below (hY x hx y hy) ((Below.refl w.heap.size w).alloc (Nat.le_refl _) (.cells #[.int .i64 k] 3)))
  have HW := hid ((Below.refl w.heap.size w).alloc (Nat.le_refl _) (.cells #[.int .i64 k] 3))
  replace hn := hid hn
  clear hd hH hY hb3
  go_enter Try.func65, Try.ntmps65
  go_wp2_with fail
  obtain ⟨wb, hwb⟩ : ∃ wb, wb = w.alloc (.cells #[.int .i64 k] 3) := ⟨_, rfl⟩
  rw [← hwb] at HD HB HH HY HW q3 ⊢
  obtain ⟨B, hB⟩ : ∃ B, B = w.heap.size := ⟨_, rfl⟩
  rw [← hB] at HB ⊢
  replace hB := hid hB
  clear hwb
  go_wp2_with fail
  go_loopg [5, 15] n (fun gg s5 s15 wr => ∃ (j : Nat) (R : List Rw), gg = n - j ∧ j ≤ n ∧ s15 = .int .i64 (j : Int) ∧ Hid (R.length = j) ∧ Mb wb wr none wb.heap.size s5 R ∧ Hid (rwData R = (Sto.blocks (D.map Dm.dk) k).take j))
  case atStart => exact ⟨0, [], rfl, by omega, rfl, hid rfl, Mb.nil _ _ (Below.refl _ _) _ (Nat.le_refl _), hid (by simp [rwData])⟩
  case round =>
    obtain ⟨j, R, rfl, hj, rfl, HL, hM, HR⟩ := hrel
    obtain ⟨wo, rfl⟩ : ∃ wo : World, wo = wr := ⟨_, rfl⟩
    have hbo := hM.own.belowOf (Nat.le_refl _) (fun k e => by cases e)
    have hszo := hbo.size
    by_cases hlt2 : j < n
    · have hjD : j < D.length := by rw [← hn.out]; exact hlt2
      obtain ⟨db, doff, rfl, -⟩ := HD.out.addr (by omega)
      obtain ⟨e0, e1⟩ := dm_at (HD.out.below hbo) j hjD
      have hxm : D[j] ∈ D := List.getElem_mem hjD
      have HX := hid (own_below (HH.out _ hxm) hbo)
      have HXY := hid (fun y hy => own_below (HY.out _ hxm y hy) hbo)
      have HBT := hid (fun b hb => blocks_take D k j hjD (rwData R) HR.out b hb)
      have i0 : (0 : Int) ≤ (j : Int) := by omega
      have i1 : (j : Int) < (n : Int) := by omega
      have HBB := hid (blk_below HB.out hbo)
      obtain ⟨x, hx⟩ : ∃ x, D[j] = x := ⟨_, rfl⟩
      rw [hx] at e0 e1 HX HXY HBT
      replace hx := hid hx
      obtain ⟨g, xa, xc, H⟩ := x
      simp only at e0 e1 HXY
      obtain ⟨a', cap', e', hs⟩ := own_sl HX.out
      simp only [Dm.v, Value.slice.injEq, true_and] at e'
      obtain ⟨rfl, rfl⟩ := e'
      simp only at hs
      replace hs := hid hs
      go_wp2_with fail
      go_at_call 63; refine (idx_stblocks1 xa H.length xc H B k _ (hs.out.alloc _) (blk_cell (blk_old HBB.out))).mono ?_; rintro e w1 ⟨b1, hf⟩
      have v1 := blk_below (blk_new wo (.cells #[.bool g, .slice xa H.length xc] 61)) b1
      have M1 := hid ((hM.alloc (.cells #[.bool g, .slice xa H.length xc] 61)).below b1)
      have S1 := hid ((hs.out.alloc (.cells #[.bool g, .slice xa H.length xc] 61)).below b1)
      have B1 := hid (fun y hy => own_below (own_below (HXY.out y hy) ((Below.refl _ _).alloc (Nat.le_refl _) (.cells #[.bool g, .slice xa H.length xc] 61))) b1)
      have c0 : w1.cell? ⟨wo.heap.size, 0, none⟩ = some (.bool g) := blk_cell v1
      have c1 : w1.cell? ⟨wo.heap.size, 1, none⟩ = some (.slice xa H.length xc) := blk_cell v1
      have hszb := b1.size
      simp only [World.size_alloc] at hszb
      have hbl : wb.heap.size ≤ w1.heap.size := by omega
      clear b1 v1 e0 e1 HXY hM hs
      rcases hf with ⟨i, hi, rfl, he1, he2⟩ | ⟨rfl, hno⟩
      · obtain ⟨hb, ho, rfl, -⟩ := S1.out.addr (by omega)
        obtain ⟨e0, e1⟩ := hm_at S1.out i hi
        have BY := hid (B1.out _ (List.getElem_mem hi))
        have HF := hid (find_some hi he1 he2)
        have ii0 : (0 : Int) ≤ (i : Int) := by omega
        have ii1 : (i : Int) < (H.length : Int) := by omega
        replace he1 := hid he1
        replace he2 := hid he2
        generalize H[i] = y at *
        obtain ⟨ys, ya, yc, yb⟩ := y
        unfold Hm.v at BY
        simp only at e0 e1 BY HF
        cases g with
        | true =>
          have HBL := hid (HBT.out [] (blk_gone rfl))
          clear e0 e1
          go_wp2_with (refine wpList_append_row rfl (.tmp 29) (.tmp 30) 118 und_rowst rfl wb.heap.size _ R rfl M1.out ⟨none, 0, 0, []⟩ _ rfl rfl (Sl.none _ _) (fun h => absurd h (Nat.lt_irrefl _)) (by rw [HL.out]; omega) hbl ?_; intro v5 w5 M5 g5)
          go_roundg (n - (j + 1))
          case measure => omega
          case rel => exact ⟨j + 1, R ++ [⟨none, 0, 0, []⟩], rfl, by omega, by go_num, hid (by simp [HL.out]), M5, hid (by rw [← HBL.out]; simp [rwData])⟩
        | false =>
          have HBL := hid (HBT.out yb (blk_some rfl HF.out))
          obtain ⟨a'', cap'', e', hbt⟩ := own_sl BY.out
          simp only [Value.slice.injEq, true_and] at e'
          obtain ⟨rfl, rfl⟩ := e'
          replace hbt := hid hbt
          go_wp2_with (refine wpList_append_row rfl (.tmp 32) (.tmp 39) 118 und_rowst rfl wb.heap.size _ R rfl M1.out ⟨ya, yb.length, yc, yb⟩ _ rfl rfl hbt.out (fun h b o e => own_apart M1.out.own.own BY.out (by decide) b (by have e : ya = _ := e; rw [e]; rfl)) (by rw [HL.out]; omega) hbl ?_; intro v5 w5 M5 g5)
          go_roundg (n - (j + 1))
          case measure => omega
          case rel => exact ⟨j + 1, R ++ [⟨ya, yb.length, yc, yb⟩], rfl, by omega, by go_num, hid (by simp [HL.out]), M5, hid (by rw [← HBL.out]; simp [rwData])⟩
      · have HF := hid (find_none hno)
        replace hno := hid hno
        cases g with
        | true =>
          have HBL := hid (HBT.out [] (blk_gone rfl))
          go_wp2_with (refine wpList_append_row rfl (.tmp 29) (.tmp 30) 118 und_rowst rfl wb.heap.size _ R rfl M1.out ⟨none, 0, 0, []⟩ _ rfl rfl (Sl.none _ _) (fun h => absurd h (Nat.lt_irrefl _)) (by rw [HL.out]; omega) hbl ?_; intro v5 w5 M5 g5)
          go_roundg (n - (j + 1))
          case measure => omega
          case rel => exact ⟨j + 1, R ++ [⟨none, 0, 0, []⟩], rfl, by omega, by go_num, hid (by simp [HL.out]), M5, hid (by rw [← HBL.out]; simp [rwData])⟩
        | false =>
          have HBL := hid (HBT.out [] (blk_none rfl HF.out))
          go_wp2_with (refine wpList_append_row rfl (.tmp 29) (.tmp 30) 118 und_rowst rfl wb.heap.size _ R rfl M1.out ⟨none, 0, 0, []⟩ _ rfl rfl (Sl.none _ _) (fun h => absurd h (Nat.lt_irrefl _)) (by rw [HL.out]; omega) hbl ?_; intro v5 w5 M5 g5)
          go_roundg (n - (j + 1))
          case measure => omega
          case rel => exact ⟨j + 1, R ++ [⟨none, 0, 0, []⟩], rfl, by omega, by go_num, hid (by simp [HL.out]), M5, hid (by rw [← HBL.out]; simp [rwData])⟩
    · obtain rfl : j = n := by omega
      obtain ⟨a', cap', rfl, hMs⟩ := hM.ms
      rw [HL.out] at hMs ⊢
      go_wp2_with fail
      go_ret
      refine ⟨_, _, R, rfl, hMs, ?_, ?_⟩
      · rw [HR.out, List.take_of_length_le (by simp [Sto.blocks, ← hn.out])]
      · exact bnext HW.out hbo
end Go.Proofs.Ythhcdfjijagalaa
namespace Go.Proofs.Ythhcdfjijagalaa
open Go.RowKit
set_option linter.unusedVariables false
/-- The reader in block r of w has what t says; its bytes lie where they lay in w0. -/
structure Rd (w0 w : World) (r : Nat) (t : Evt.St) : Prop where
  cells : ∃ a n cap, w.heap[r]? = some (.cells #[.slice a n cap, .bool t.ok] 148 (0, 0)) ∧ Bt w0 a n cap t.l
  old : w0.heap.size ≤ r
  below : Below w0.heap.size w0 w
theorem Rd.keep {w0 w w' : World} {r : Nat} {t : Evt.St} {S : List Nat} (h : Rd w0 w r t) (hO : Only w w' S) (hr : r ∉ S) (hS : ∀ x ∈ S, w0.heap.size ≤ x) : Rd w0 w' r t := by
  obtain ⟨a, n, cap, hb, hl⟩ := h.cells
  exact ⟨⟨a, n, cap, hO.blk hb hr, hl⟩, h.old, h.below.trans (hO.isBelow h.below.size hS)⟩
theorem heap_set0 {w : World} {b : Nat} {x y v : Value} {t : TypeId} (h : w.heap[b]? = some (.cells #[x, y] t (0, 0))) : (w.setCell ⟨b, 0, none⟩ v).heap[b]? = some (.cells #[v, y] t (0, 0)) := by
  rw [heap_setCell_same w b 0 #[x, y] t v h]; rfl
theorem heap_set1 {w : World} {b : Nat} {x y v : Value} {t : TypeId} (h : w.heap[b]? = some (.cells #[x, y] t (0, 0))) : (w.setCell ⟨b, 1, none⟩ v).heap[b]? = some (.cells #[x, v] t (0, 0)) := by
  rw [heap_setCell_same w b 1 #[x, y] t v h]; rfl
/-- bytes, and the reader behind it -/
def TakeRes (w0 : World) (r : Nat) (l : List UInt8) (t : Evt.St) (w : World) (e : Ending) (w' : World) : Prop := ∃ a n cap, e = .returned (.slice a n cap) ∧ Bt w' a n cap l ∧ Rd w0 w' r t ∧ Only w w' [r]
set_option maxHeartbeats 1000000 in
theorem rdtake_call (w0 w : World) (r k : Nat) (t : Evt.St) (hk : k ≤ 255) (h : Rd w0 w r t) : Calls Try.prog 107 #[.pointer (some ⟨r, 0, none⟩), .int .i64 (k : Int)] w (TakeRes w0 r (Evt.take k t).1 (Evt.take k t).2 w) := by
  obtain ⟨⟨a, n, cap, hb, hl⟩, hold, hbel⟩ := h
  obtain ⟨l, ok⟩ := t
  simp only at hb hl
  have HN := hid (Bt.n hl)
  have hmax := hl.max
  have hle := hl.le
  unfold maxLen at hmax
  have c0 : w.cell? ⟨r, 0, none⟩ = some (.slice a n cap) := blk_cell hb
  have c1 : w.cell? ⟨r, 1, none⟩ = some (.bool ok) := blk_cell hb
  have f0 : w.frozen? ⟨r, 0, none⟩ = false := blk_free hb
  have f1 : w.frozen? ⟨r, 1, none⟩ = false := blk_free hb
  by_cases hlt : n < k
  · have HE := hid (show Evt.take k ⟨l, ok⟩ = (List.replicate k 0, ⟨l, false⟩) by unfold Evt.take; rw [if_pos (by simp only [HN.out]; exact hlt)])
    have t0 : decide ((n : Int) < (k : Int)) = true := by simpa using hlt
    have t1 : decide (n < k) = true := by simpa using hlt
    rw [HE.out]
    go_enter Try.func107, Try.ntmps107
    go_wp2_with (refine wpList_make_bytes rfl (.tmp 16) (.tmp 16) rfl k rfl rfl (by omega) ?_; intro w3 o3 b3 z3)
    go_ret
    obtain ⟨a3, cp3, e3, s3⟩ := own_sl o3
    cases e3
    have hO : Only w w3 [r] := ((Only.refl w [r]).setCell (.inl (by simp)) _).below b3
    have hb3 := blk_below (heap_set1 (v := .bool false) hb) b3
    rw [World.size_setCell] at s3
    exact ⟨_, _, _, rfl, s3, ⟨⟨a, n, cap, hb3, hl⟩, hold, hbel.trans (hO.isBelow hbel.size (by simpa using hold))⟩, hO⟩
  · have HE := hid (show Evt.take k ⟨l, ok⟩ = (l.take k, ⟨l.drop k, ok⟩) by unfold Evt.take; rw [if_neg (by simp only [HN.out]; exact hlt)])
    have t0 : decide ((n : Int) < (k : Int)) = false := by simpa using hlt
    have t1 : decide (n < k) = false := by simpa using hlt
    have hkn : k ≤ n := by omega
    have hs1 := Bt.take hl hkn
    have hs2 := Bt.slice hl hkn (Nat.le_refl n)
    rw [List.take_of_length_le (by rw [List.length_drop, HN.out]; exact Nat.le_refl _)] at hs2
    rw [HE.out]
    by_cases hc : cap = k
    · obtain rfl : n = k := by omega
      subst hc
      rw [if_pos rfl] at hs2
      have hs1 := hid hs1
      have hs2 := hid hs2
      go_enter Try.func107, Try.ntmps107
      go_wp2
      go_ret
      exact ⟨_, _, _, rfl, hs1.out.below (hbel.setCell hold _), ⟨⟨_, _, _, heap_set0 hb, by simpa using hs2.out⟩, hold, hbel.setCell hold _⟩, (Only.refl w [r]).setCell (.inl (by simp)) _⟩
    · rw [if_neg hc] at hs2
      have hs1 := hid hs1
      have hs2 := hid hs2
      go_enter Try.func107, Try.ntmps107
      go_wp2
      all_goals go_ret
      all_goals exact ⟨_, _, _, rfl, hs1.out.below (hbel.setCell hold _), ⟨⟨_, _, _, heap_set0 hb, by simpa using hs2.out⟩, hold, hbel.setCell hold _⟩, (Only.refl w [r]).setCell (.inl (by simp)) _⟩
theorem Evt.be_snoc (l : List UInt8) (j : Nat) (h : j < l.length) : Evt.be (l.take (j + 1)) = 256 * Evt.be (l.take j) + at8 l j := by
  unfold Evt.be
  rw [List.take_succ_eq_append_getElem h, List.foldl_append]
  simp [at8, List.getD, h, Nat.mul_comm]
theorem Evt.be_lt (l : List UInt8) (j : Nat) (h : j ≤ l.length) : Evt.be (l.take j) < 256 ^ j := by
  induction j with
  | zero => simp [Evt.be]
  | succ j ih =>
    rw [Evt.be_snoc l j (by omega), Nat.pow_succ]
    have := ih (by omega)
    have := at8_lt l j
    omega
theorem Evt.take_length (k : Nat) (t : Evt.St) : (Evt.take k t).1.length = k := by
  unfold Evt.take
  split
  · simp
  · rw [List.length_take]; omega
def NumRes (w0 : World) (r : Nat) (x : Nat) (t : Evt.St) (w : World) (e : Ending) (w' : World) : Prop := e = .returned (.int .i64 (x : Int)) ∧ Rd w0 w' r t ∧ Only w w' [r]
set_option maxHeartbeats 1000000 in
theorem rdnum_call (w0 w : World) (r k : Nat) (t : Evt.St) (hk : k ≤ 3) (h : Rd w0 w r t) : Calls Try.prog 93 #[.pointer (some ⟨r, 0, none⟩), .int .i64 (k : Int)] w (NumRes w0 r (Evt.num k t).1 (Evt.num k t).2 w) := by
  have D := hid (rdtake_call w0 w r k t (by omega) h)
  have HL := hid (Evt.take_length k t)
  have HE := hid (show (Evt.num k t).1 = Evt.be (Evt.take k t).1 from rfl)
  have HE2 := hid (show (Evt.num k t).2 = (Evt.take k t).2 from rfl)
  rw [HE.out, HE2.out]
  generalize (Evt.take k t).1 = l at *
  generalize (Evt.take k t).2 = t' at *
  clear HE HE2
  go_enter Try.func93, Try.ntmps93
  go_wp2_with fail
  go_at_call 107; refine (D.out).mono ?_; rintro e w1 ⟨a, n, cap, rfl, hl, hR, hO⟩
  have HN := hid ((Bt.n hl).symm.trans HL.out)
  have hn3 : n ≤ 3 := by have := HN.out; omega
  go_wp2_with fail
  go_loopg [5, 7, 12] n (fun g x c i wr => w1 = wr ∧ ∃ j : Nat, g = n - j ∧ j ≤ n ∧ i = .int .i64 j ∧ x = .int .i64 (Evt.be (l.take j) : Nat))
  case atStart => exact ⟨rfl, 0, rfl, by omega, rfl, rfl⟩
  case round =>
    obtain ⟨rfl, j, rfl, hj, rfl, rfl⟩ := hrel
    by_cases hlt : j < n
    · obtain ⟨b, off, rfl, _⟩ := hl.addr (by omega)
      have hc := Bt.at hl j hlt
      have h8 := at8_lt l j
      have HS := hid (Evt.be_snoc l j (by rw [HL.out]; have := HN.out; omega))
      have hB := Evt.be_lt l j (by rw [HL.out]; have := HN.out; omega)
      have hB2 : Evt.be (l.take j) < 65536 := Nat.lt_of_lt_of_le hB (Nat.pow_le_pow_right (n := 256) (by decide) (show j ≤ 2 by omega))
      clear hB
      generalize Evt.be (l.take j) = B at *
      have hx := i64_or_nat (B * 256) (at8 l j) (by omega) (by omega)
      have hx2 : bits .or .i64 ((B : Int) * 256) (at8 l j : Int) = ((256 * B + at8 l j : Nat) : Int) := by
        rw [Nat.or_comm, or_shift (at8 l j) B 8 h8] at hx
        rw [show ((B * 256 : Nat) : Int) = (B : Int) * 256 by simp] at hx
        rw [hx]; congr 1; omega
      clear hx
      go_wp2
      go_roundg (n - (j + 1))
      case measure => omega
      case rel => exact ⟨rfl, j + 1, rfl, by omega, by go_num, by rw [HS.out]; exact congrArg (Value.int .i64) (by omega)⟩
    · obtain rfl : j = n := by omega
      go_wp2
      go_ret
      exact ⟨ret_int (by rw [List.take_of_length_le (by rw [Bt.n hl]; exact Nat.le_refl _)]), hR, hO⟩
def EvRes (w0 : World) (r : Nat) (x : Evt.Ev) (t : Evt.St) (w : World) (e : Ending) (w' : World) : Prop := e = .returned (evVal x) ∧ Rd w0 w' r t ∧ Only w w' [r] ∧ x.s.size ≤ maxLen
set_option maxHeartbeats 1000000 in
theorem rdevent_call (w0 w : World) (r : Nat) (t : Evt.St) (h : Rd w0 w r t) : Calls Try.prog 94 #[.pointer (some ⟨r, 0, none⟩)] w (EvRes w0 r (Evt.event t).1 (Evt.event t).2 w) := by
  have hr := h.old
  have hrl : r < w.heap.size := by obtain ⟨⟨a, n, cap, hb, _⟩, _, _⟩ := h; exact blk_lt hb
  have D1 := fun W t (h : Rd w0 W r t) => rdnum_call w0 W r 1 t (by omega) h
  have D3 := fun W t (h : Rd w0 W r t) => rdnum_call w0 W r 3 t (by omega) h
  have D2 := fun W k t (hk : k ≤ 255) (h : Rd w0 W r t) => rdtake_call w0 W r k t hk h
  have hE : Evt.event t = (⟨⟨(Evt.take (Evt.num 1 t).1 (Evt.num 1 t).2).1.toArray⟩, (Evt.num 1 (Evt.take (Evt.num 1 t).1 (Evt.num 1 t).2).2).1, (Evt.num 3 (Evt.num 1 (Evt.take (Evt.num 1 t).1 (Evt.num 1 t).2).2).2).1⟩, (Evt.num 3 (Evt.num 1 (Evt.take (Evt.num 1 t).1 (Evt.num 1 t).2).2).2).2) := rfl
  have d1 := D1 (w.alloc (.cells #[.string ⟨#[]⟩, .int .i64 0, .int .i64 0] 32)) t
  have hb1 : (Evt.num 1 t).1 < 256 := by
    have := Evt.be_lt (Evt.take 1 t).1 1 (by rw [Evt.take_length]; exact Nat.le_refl _)
    rw [List.take_of_length_le (by rw [Evt.take_length]; exact Nat.le_refl _)] at this
    exact this
  generalize Evt.num 1 t = n1 at *
  obtain ⟨x1, t1⟩ := n1
  simp only at hE d1 hb1
  have d2 := fun W => D2 W x1 t1 (by omega)
  have hl2 := Evt.take_length x1 t1
  generalize Evt.take x1 t1 = n2 at *
  obtain ⟨l2, t2⟩ := n2
  simp only at hE d2 hl2
  have d3 := fun W => D1 W t2
  generalize Evt.num 1 t2 = n3 at *
  obtain ⟨x3, t3⟩ := n3
  simp only at hE d3
  have d4 := fun W => D3 W t3
  generalize Evt.num 3 t3 = n4 at *
  obtain ⟨x4, t4⟩ := n4
  simp only at hE d4
  have HE := hid hE
  clear hE D1 D2 D3
  rw [HE.out]
  have HL2 := hid hl2
  have d1 := hid d1; have d2 := hid d2; have d3 := hid d3; have d4 := hid d4
  clear hl2
  have R0 := hid (h.keep ((Only.refl w []).alloc (.cells #[.string ⟨#[]⟩, .int .i64 0, .int .i64 0] 32)) (by simp) (by simp))
  go_enter Try.func94, Try.ntmps94
  go_wp2_with fail
  go_at_call 93; refine (d1.out R0.out).mono ?_; rintro e w1 ⟨rfl, R1, O1⟩
  go_wp2_with fail
  go_at_call 107; refine (d2.out _ R1).mono ?_; rintro e w2 ⟨a, n, cap, rfl, hl, R2, O2⟩
  have hst := Bt.str hl
  have HN := hid (Bt.n hl)
  go_wp2_with fail
  go_at_call 93; refine (d3.out _ R2).mono ?_; rintro e w3 ⟨rfl, R3, O3⟩
  go_wp2_with fail
  go_at_call 93; refine (d4.out _ R3).mono ?_; rintro e w4 ⟨rfl, R4, O4⟩
  have hne : w.heap.size ≠ r := by omega
  have hb0 := blk_new w (.cells #[.string ⟨#[]⟩, .int .i64 0, .int .i64 0] 32)
  have hb4 := O4.blk (O3.blk (O2.blk (O1.blk hb0 (by simpa using hne)) (by simpa using hne)) (by simpa using hne)) (by simpa using hne)
  have r0 : w4.cell? ⟨w.heap.size, 0, none⟩ = some (.string ⟨#[]⟩) := blk_cell hb4
  have r1 : w4.cell? ⟨w.heap.size, 1, none⟩ = some (.int .i64 0) := blk_cell hb4
  have r2 : w4.cell? ⟨w.heap.size, 2, none⟩ = some (.int .i64 0) := blk_cell hb4
  have f0 : w4.frozen? ⟨w.heap.size, 0, none⟩ = false := blk_free hb4
  have f1 : w4.frozen? ⟨w.heap.size, 1, none⟩ = false := blk_free hb4
  have f2 : w4.frozen? ⟨w.heap.size, 2, none⟩ = false := blk_free hb4
  have OO : Only w w4 [r] := (((((Only.refl w [r]).alloc (.cells #[.string ⟨#[]⟩, .int .i64 0, .int .i64 0] 32)).more O1.grown (by simp)).more O2.grown (by simp)).more O3.grown (by simp)).more O4.grown (by simp)
  have hK : Only w4 (((w4.setCell ⟨w.heap.size, 0, none⟩ (.string ⟨l2.toArray⟩)).setCell ⟨w.heap.size, 1, none⟩ (.int .i64 (x3 : Int))).setCell ⟨w.heap.size, 2, none⟩ (.int .i64 (x4 : Int))) [w.heap.size] := (((Only.refl w4 _).setCell (.inl (by simp)) _).setCell (.inl (by simp)) _).setCell (.inl (by simp)) _
  have hszw := h.below.size
  have hRE := R4.keep hK (by simpa using Ne.symm hne) (by simpa using hszw)
  have hOE : Only w (((w4.setCell ⟨w.heap.size, 0, none⟩ (.string ⟨l2.toArray⟩)).setCell ⟨w.heap.size, 1, none⟩ (.int .i64 (x3 : Int))).setCell ⟨w.heap.size, 2, none⟩ (.int .i64 (x4 : Int))) [r] := ((OO.setCell (.inr (Nat.le_refl _)) _).setCell (.inr (Nat.le_refl _)) _).setCell (.inr (Nat.le_refl _)) _
  clear hK
  have hRE := hid hRE; have hOE := hid hOE
  go_wp2_with fail
  exact bodyPost_ret (v := .agg #[.string ⟨l2.toArray⟩, .int .i64 (x3 : Int), .int .i64 (x4 : Int)]) (by simp [results, Try.results94, go_sem, r0, r1, r2]) rfl ⟨rfl, hRE.out, hOE.out, by show l2.toArray.size ≤ maxLen; simp [maxLen]; have := HL2.out; omega⟩
end Go.Proofs.Ythhcdfjijagalaa
namespace Go.Proofs.Ythhcdfjijagalaa
open Go.RowKit
set_option linter.unusedVariables false
theorem Evt.put_cells (x : Nat) (h : x < 16777216) : [UInt8.ofNat (x / 65536)].map (fun c => (c.toNat : Int)) = [(x : Int) / 65536] ∧ [UInt8.ofNat (x / 256)].map (fun c => (c.toNat : Int)) = [(x : Int) / 256 % 256] ∧ [UInt8.ofNat x].map (fun c => (c.toNat : Int)) = [(x : Int) % 256] := by
  simp only [List.map_cons, List.map_nil, UInt8.toNat_ofNat', List.cons.injEq, and_true]; omega
set_option maxHeartbeats 1000000 in
theorem eput_call (w0 w : World) (row : Option Nat) (base : Nat) (v : Value) (l : List UInt8) (x : Nat) (ho : OB w0 w row base v l) (hb : base ≤ w.heap.size) (hx : x < 16777216) (hl : l.length + 3 ≤ 140737488355328) :
    Calls Try.prog 88 #[v, .int .i64 (x : Int), .int .i64 3] w fun e w' => ∃ v', e = .returned v' ∧ OB w0 w' row base v' (l ++ Evt.three x) ∧ w.grownBy w' v.ownBlock := by
  have hpc := hid (Evt.put_cells x hx)
  obtain ⟨a0, c0, rfl, _⟩ := ho.sl
  go_enter Try.func88, Try.ntmps88
  go_wp2
  go_loopg [0, 7] 3 (fun g o i wr => ∃ (L : List UInt8) (j : Nat) (q : Int), g = 3 - j ∧ j ≤ 3 ∧ q = 2 - (j : Int) ∧ i = .int .i64 q ∧ Hid (L = l ++ (Evt.three x).take j) ∧ L.length ≤ l.length + j ∧ OB w wr (Value.slice a0 l.length c0).ownBlock base o L)
  case atStart => exact ⟨l, 0, 2, rfl, by omega, rfl, rfl, hid (by simp), by omega, OT.start ho.own⟩
  case round =>
    obtain ⟨L, j, q, rfl, hj, hq, rfl, HL, hLl, hO⟩ := hrel
    have hsz := hO.grown.size
    have hj4 : j = 0 ∨ j = 1 ∨ j = 2 ∨ j = 3 := by omega
    rcases hj4 with rfl | rfl | rfl | rfl
    · obtain rfl : q = 2 := by omega
      clear hq
      go_wp2_with (refine wpList_append_ob rfl (.tmp 14) (.tmp 20) rfl base _ L [UInt8.ofNat (x / 65536)] rfl (hO.alloc _) (some ⟨wr.heap.size, 0, none⟩) 1 1 rfl (lit_bt wr _ [UInt8.ofNat (x / 65536)] (by simp [maxLen]) (cb_ints _ hpc.out.1).symm) (by simp; omega) (by simp; omega) ?_; intro v1 w1 ho1 hg1)
      go_roundg 2
      case measure => omega
      case rel => exact ⟨L ++ [UInt8.ofNat (x / 65536)], 1, 1, rfl, by omega, rfl, rfl, hid (by rw [HL.out]; unfold Evt.three; simp), by simp; omega, ho1⟩
    · obtain rfl : q = 1 := by omega
      clear hq
      go_wp2_with (refine wpList_append_ob rfl (.tmp 14) (.tmp 20) rfl base _ L [UInt8.ofNat (x / 256)] rfl (hO.alloc _) (some ⟨wr.heap.size, 0, none⟩) 1 1 rfl (lit_bt wr _ [UInt8.ofNat (x / 256)] (by simp [maxLen]) (cb_ints _ hpc.out.2.1).symm) (by simp; omega) (by simp; omega) ?_; intro v1 w1 ho1 hg1)
      go_roundg 1
      case measure => omega
      case rel => exact ⟨L ++ [UInt8.ofNat (x / 256)], 2, 0, rfl, by omega, rfl, rfl, hid (by rw [HL.out]; unfold Evt.three; simp), by simp; omega, ho1⟩
    · obtain rfl : q = 0 := by omega
      clear hq
      go_wp2_with (refine wpList_append_ob rfl (.tmp 14) (.tmp 20) rfl base _ L [UInt8.ofNat x] rfl (hO.alloc _) (some ⟨wr.heap.size, 0, none⟩) 1 1 rfl (lit_bt wr _ [UInt8.ofNat x] (by simp [maxLen]) (cb_ints _ hpc.out.2.2).symm) (by simp; omega) (by simp; omega) ?_; intro v1 w1 ho1 hg1)
      go_roundg 0
      case measure => omega
      case rel => exact ⟨L ++ [UInt8.ofNat x], 3, -1, rfl, by omega, rfl, rfl, hid (by rw [HL.out]; unfold Evt.three; simp), by simp; omega, ho1⟩
    · obtain rfl : q = -1 := by omega
      clear hq
      go_wp2
      go_ret
      have e : L = l ++ Evt.three x := by rw [HL.out]; rfl
      exact ⟨_, rfl, by rw [← e]; exact ho.more hO.own hO.grown hO.lies, hO.grown⟩
end Go.Proofs.Ythhcdfjijagalaa
