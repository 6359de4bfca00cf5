/- The closed fact that the laws of chapter 6 ask first is true. -/
import Derived.Test.YtjdgfijpmljhiaaStP
import Derived.Test.YtjdgfijpmljhiaaStripeR
import Derived.Test.YtjdgfijpmljhiaaStripeC
import Derived.Test.YtjdgfijpmljhiaaCoB
namespace Go.Proofs.Ytjdgfijpmljhiaa
open Go.RowKit
set_option linter.unusedVariables false
set_option linter.unusedSimpArgs false
set_option maxRecDepth 100000
theorem hurt_gone {L : List (List UInt8)} {u : Nat} (hu : u < L.length) : Stp.Hurt L (L.set u []) [u] := by
  have := (Stp.Hurt.start L).turn (u := u) (by simp) hu (r := []) (.inl rfl)
  simpa using this

set_option maxHeartbeats 4000000 in
theorem alive6_call (w : World) : Calls Try.prog 25 #[] w (Grew (.bool true) w) := by
  have hb0 : Bt (w.alloc (.cells #[.int .u8 7, .int .u8 8, .int .u8 9] 5)) (some ⟨w.heap.size, 0, none⟩) 3 3 [7, 8, 9] := lit_bt w #[.int .u8 7, .int .u8 8, .int .u8 9] [7, 8, 9] (by decide) rfl
  have bw0 : Below w.heap.size w (w.alloc (.cells #[.int .u8 7, .int .u8 8, .int .u8 9] 5)) := (Below.refl _ _).alloc (Nat.le_refl _) _
  go_enter Try.func25, Try.ntmps25
  go_wp2_with fail
  go_at_call 26; refine (sLay_ok _ _ _ _ 2 2 1 _ hb0 (by decide) (by decide) (by decide) (by decide) (by decide)).mono ?_; rintro e w1 ⟨a1, n1, c1, L, e1, rfl, hL, hp, b1⟩
  have he1 : e1 = 0 := by
    obtain ⟨S, hS⟩ : ∃ S, S = e1 := ⟨_, rfl⟩
    unfold Stp.LayR at hp
    rw [if_neg (by decide), if_neg (by decide), if_neg (by decide)] at hp
    obtain ⟨_, _, _, h⟩ := hp
    exact h
  subst he1
  obtain ⟨g', d', s', S, e1, e2, e3, hLd⟩ := hp.laid rfl
  obtain rfl : g' = 2 := by omega
  obtain rfl : d' = 2 := by omega
  obtain rfl : s' = 1 := by omega
  obtain rfl : n1 = 3 := by rw [← hL.dn, hLd.len]
  have HL := hid hL.cnt
  have HLd := hid hLd
  replace b1 := bnext bw0 b1
  obtain ⟨lb, loff, rfl, _⟩ := hL.sl.addr (by omega)
  have h00 : 0 < L.length := by rw [HL.out]; decide
  have h22 : 2 < L.length := by rw [HL.out]; decide
  obtain ⟨x0, q0⟩ := hL.at 0 h00
  obtain ⟨x2, q2⟩ := hL.at 2 h22
  rw [Nat.add_zero] at x0
  have hOd : rwData [L[0]'h00, ⟨none, 0, 0, []⟩, L[2]'h22] = (rwData L).set 1 [] := by
    have hl := HL.out
    match L, hl with
    | [r0, r1, r2], _ => rfl
  generalize L[0] = r0 at *
  generalize L[2] = r2 at *
  have hH := hid (hurt_gone (L := rwData L) (u := 1) (by rw [rwData_length, HL.out]; decide))
  rw [← hOd] at hH
  have hrr : Hid (∀ r ∈ [r0, (⟨none, 0, 0, []⟩ : Rw), r2], Bt w1 r.a r.n r.cap r.l) := hid (fun r hr => by
    simp only [List.mem_cons, List.not_mem_nil, or_false] at hr
    rcases hr with rfl | rfl | rfl
    · exact q0
    · exact Sl.none _ _
    · exact q2)
  have M1 := fun (W : World) (hW : Below w1.heap.size w1 W) => lit_rows W [r0, ⟨none, 0, 0, []⟩, r2] (fun r hr => (hrr.out r hr).below hW) (by simp) #[.slice r0.a r0.n r0.cap, .slice none 0 0, .slice r2.a r2.n r2.cap] rfl
  have B1 := fun (W : World) (hW : Below w1.heap.size w1 W) => hW.alloc hW.size (.cells #[.slice r0.a r0.n r0.cap, .slice none 0 0, .slice r2.a r2.n r2.cap] 48)
  have y0 := World.block_lt_of_cell? _ _ x0
  have y2 := World.block_lt_of_cell? _ _ x2
  have D1 : Hid (Calls Try.prog 32 #[.slice (some ⟨w1.heap.size, 0, none⟩) 3 3, .int .i64 2, .int .i64 2] (w1.drew.alloc (.cells #[.slice r0.a r0.n r0.cap, .slice none 0 0, .slice r2.a r2.n r2.cap] 48)) (fun e w' => ∃ a5 c5, e = .returned (.tuple #[.slice a5 3 c5, .int .i64 0]) ∧ Below w1.heap.size w1 w' ∧ Bt w' a5 3 c5 [7, 8, 9] ∧ w'.cell? ⟨lb, loff, none⟩ = some (.slice r0.a r0.n r0.cap) ∧ w'.cell? ⟨lb, loff + 2, none⟩ = some (.slice r2.a r2.n r2.cap))) := hid (by
    have hbd : Below w1.heap.size w1 w1.drew := (Below.refl _ _).drew
    refine (sRead_ok _ 3 3 _ 2 2 1 _ (M1 w1.drew hbd) rfl (by decide) (by decide) (by decide)).mono ?_
    rintro e w5 ⟨a5, n5, c5, R, f, rfl, hR, hp5, b5⟩
    obtain ⟨rfl, rfl⟩ := hH.out.read HLd.out (by decide) hp5
    obtain rfl : n5 = 3 := (Bt.n hR).symm
    have hb := (B1 w1.drew hbd).trans (b5.mono (B1 w1.drew hbd).size)
    exact ⟨a5, c5, rfl, hb, hR, (hb.cell (p := ⟨lb, loff, none⟩) y0).trans x0, (hb.cell (p := ⟨lb, loff + 2, none⟩) y2).trans x2⟩)
  replace hOd := hid hOd
  clear hp hLd e1 e2 e3
  go_upto_region 4 with (fail)
  refine wp_region_held_drew (S := (fun w' => w'.cell? ⟨lb, loff, none⟩ = some (.slice r0.a r0.n r0.cap) ∧ w'.cell? ⟨lb, loff + 2, none⟩ = some (.slice r2.a r2.n r2.cap))) (by kernel_rfl) ⟨x0, x2⟩ (fun hHeld => ?_)
  refine hTake (i := 0) (v := ?_) rfl (by kernel_rfl) (by kernel_rfl) (by kernel_rfl) (fun _ _ _ h => h) rfl ?_ (by assumption) ?_
  rotate_left
  · (intro w hSw; (try dsimp only at hSw); go_simp; try with_reducible rfl)
  try simp only [List.getElem_toArray, List.getElem_cons_succ, List.getElem_cons_zero, Act.put, List.setIfInBounds_toArray, List.set_cons_zero, List.set_cons_succ]
  refine hTake (i := 1) (v := ?_) rfl (by kernel_rfl) (by kernel_rfl) (by kernel_rfl) (fun _ _ _ h => h) rfl ?_ (by assumption) ?_
  rotate_left
  · (intro w hSw; (try dsimp only at hSw); go_simp; try with_reducible rfl)
  try simp only [List.getElem_toArray, List.getElem_cons_succ, List.getElem_cons_zero, Act.put, List.setIfInBounds_toArray, List.set_cons_zero, List.set_cons_succ]
  refine hTake (i := 2) (v := ?_) rfl (by kernel_rfl) (by kernel_rfl) (by kernel_rfl) (fun _ _ _ h => h) rfl ?_ (by assumption) ?_
  rotate_left
  · (intro w hSw; (try dsimp only at hSw); go_simp; try with_reducible rfl)
  try simp only [List.getElem_toArray, List.getElem_cons_succ, List.getElem_cons_zero, Act.put, List.setIfInBounds_toArray, List.set_cons_zero, List.set_cons_succ]
  refine hTake (i := 3) (v := ?_) rfl (by kernel_rfl) (by kernel_rfl) (by kernel_rfl) (fun _ _ _ h => h) rfl ?_ (by assumption) ?_
  rotate_left
  · (intro w hSw; (try dsimp only at hSw); go_simp; try with_reducible rfl)
  try simp only [List.getElem_toArray, List.getElem_cons_succ, List.getElem_cons_zero, Act.put, List.setIfInBounds_toArray, List.set_cons_zero, List.set_cons_succ]
  refine hTake (i := 4) (v := ?_) rfl (by kernel_rfl) (by kernel_rfl) (by kernel_rfl) (fun _ _ _ h => h) rfl ?_ (by assumption) ?_
  rotate_left
  · (intro w hSw; (try dsimp only at hSw); go_simp; try with_reducible rfl)
  try simp only [List.getElem_toArray, List.getElem_cons_succ, List.getElem_cons_zero, Act.put, List.setIfInBounds_toArray, List.set_cons_zero, List.set_cons_succ]
  refine hTake (i := 5) (v := ?_) rfl (by kernel_rfl) (by kernel_rfl) (by kernel_rfl) (fun _ _ _ h => h) rfl ?_ (by assumption) ?_
  rotate_left
  · (intro w hSw; (try dsimp only at hSw); go_simp; try with_reducible rfl)
  try simp only [List.getElem_toArray, List.getElem_cons_succ, List.getElem_cons_zero, Act.put, List.setIfInBounds_toArray, List.set_cons_zero, List.set_cons_succ]
  refine wpAnyH_ready (rs := [6]) (by kernel_rfl) (by simp) ?_
  refine AllReadyH.cons rfl (fun K hK => ?_) AllReadyH.nil
  simp only [List.getElem_toArray, List.getElem_cons_succ, List.getElem_cons_zero]
  go_simp
  refine hK.out _ _ ⟨(cell_old y0).trans x0, (cell_old y0).trans x2⟩ (fun hHeld => ?_)
  clear hK K
  try simp only [List.getElem_toArray, List.getElem_cons_succ, List.getElem_cons_zero, Act.put, List.setIfInBounds_toArray, List.set_cons_zero, List.set_cons_succ]
  refine wpAnyH_ready (rs := [7]) (by kernel_rfl) (by simp) ?_
  refine AllReadyH.cons rfl (fun K hK => ?_) AllReadyH.nil
  simp only [List.getElem_toArray, List.getElem_cons_succ, List.getElem_cons_zero]
  go_simp
  go_at_call 32; refine (D1.out).mono ?_; rintro e w5 ⟨a5, c5, rfl, b5, hb5, g0, g1⟩
  go_wp2_with fail
  refine hK.out _ _ ⟨g0, g1⟩ (fun hHeld => ?_)
  clear hK K
  try simp only [List.getElem_toArray, List.getElem_cons_succ, List.getElem_cons_zero, Act.put, List.setIfInBounds_toArray, List.set_cons_zero, List.set_cons_succ]
  refine hTake (i := 8) (v := ?_) rfl (by kernel_rfl) (by kernel_rfl) (by kernel_rfl) (fun _ _ _ h => h) rfl ?_ (by assumption) ?_
  rotate_left
  · (intro w hSw; (try dsimp only at hSw); go_simp; try with_reducible rfl)
  try simp only [List.getElem_toArray, List.getElem_cons_succ, List.getElem_cons_zero, Act.put, List.setIfInBounds_toArray, List.set_cons_zero, List.set_cons_succ]
  refine hTake (i := 9) (v := ?_) rfl (by kernel_rfl) (by kernel_rfl) (by kernel_rfl) (fun _ _ _ h => h) rfl ?_ (by assumption) ?_
  rotate_left
  · (intro w hSw; (try dsimp only at hSw); go_simp; try with_reducible rfl)
  try simp only [List.getElem_toArray, List.getElem_cons_succ, List.getElem_cons_zero, Act.put, List.setIfInBounds_toArray, List.set_cons_zero, List.set_cons_succ]
  refine hTake (i := 10) (v := ?_) rfl (by kernel_rfl) (by kernel_rfl) (by kernel_rfl) (fun _ _ _ h => h) rfl ?_ (by assumption) ?_
  rotate_left
  · (intro w hSw; (try dsimp only at hSw); go_simp; try with_reducible rfl)
  try simp only [List.getElem_toArray, List.getElem_cons_succ, List.getElem_cons_zero, Act.put, List.setIfInBounds_toArray, List.set_cons_zero, List.set_cons_succ]
  refine hTake (i := 11) (v := ?_) rfl (by kernel_rfl) (by kernel_rfl) (by kernel_rfl) (fun _ _ _ h => h) rfl ?_ (by assumption) ?_
  rotate_left
  · (intro w hSw; (try dsimp only at hSw); go_simp; try with_reducible rfl)
  try simp only [List.getElem_toArray, List.getElem_cons_succ, List.getElem_cons_zero, Act.put, List.setIfInBounds_toArray, List.set_cons_zero, List.set_cons_succ]
  refine hTake (i := 12) (v := ?_) rfl (by kernel_rfl) (by kernel_rfl) (by kernel_rfl) (fun _ _ _ h => h) rfl ?_ (by assumption) ?_
  rotate_left
  · (intro w hSw; (try dsimp only at hSw); go_simp; try with_reducible rfl)
  try simp only [List.getElem_toArray, List.getElem_cons_succ, List.getElem_cons_zero, Act.put, List.setIfInBounds_toArray, List.set_cons_zero, List.set_cons_succ]
  refine wpAnyH_done (by kernel_rfl) ?_ _
  rename World => w5
  have bw5 := bnext b1 b5
  have z0 : lb < w5.heap.size := World.block_lt_of_cell? _ _ g0
  have M2 := fun (W : World) (hW : Below w1.heap.size w1 W) => lit_rows W [r0, ⟨none, 0, 0, []⟩, r2] (fun r hr => (hrr.out r hr).below hW) (by simp) #[.slice r0.a r0.n r0.cap, .slice none 0 0, .slice r2.a r2.n r2.cap] rfl
  clear D1 x0 x2
  obtain ⟨x0, x2⟩ := hHeld
  clear hHeld
  go_upto_region 5 with (fail)
  obtain ⟨V, hV⟩ : ∃ V, V = w5.drew.alloc (.cells #[.int .u8 7, .int .u8 8, .int .u8 9] 5) := ⟨_, rfl⟩
  have hb6 : Bt w5.drew a5 3 c5 [7, 8, 9] := Sl.drewN hb5 1
  have bV : Below w5.heap.size w5 V := by rw [hV]; exact ((Below.refl _ _).drew).alloc (Nat.le_refl _) _
  have hb7 : Bt V a5 3 c5 [7, 8, 9] := Sl.below hb5 bV
  have y3 : V.cell? ⟨lb, loff, none⟩ = some (.slice r0.a r0.n r0.cap) := (bV.cell (p := ⟨lb, loff, none⟩) z0).trans g0
  have y4 : V.cell? ⟨lb, loff + 2, none⟩ = some (.slice r2.a r2.n r2.cap) := (bV.cell (p := ⟨lb, loff + 2, none⟩) z0).trans g1
  have y5 : lb < V.heap.size := Nat.lt_of_lt_of_le z0 bV.size
  have hlit : Bt V (some ⟨w5.heap.size, 0, none⟩) 3 3 [7, 8, 9] := by rw [hV]; exact lit_bt w5.drew #[.int .u8 7, .int .u8 8, .int .u8 9] [7, 8, 9] (by decide) rfl
  have hStr2 := Bt.str hlit
  have hV2 := hV.symm
  replace hV := hid hV
  have bVw := bnext b5 bV
  have D2 : Hid (Calls Try.prog 28 #[.slice (some ⟨V.heap.size, 0, none⟩) 3 3, .int .i64 2] (V.alloc (.cells #[.slice r0.a r0.n r0.cap, .slice none 0 0, .slice r2.a r2.n r2.cap] 48)) (fun e w' => ∃ a8 c8, e = .returned (.slice a8 1 c8) ∧ Below w5.heap.size w5 w' ∧ Bt w' a5 3 c5 [7, 8, 9] ∧ w'.cell? ⟨lb, loff, none⟩ = some (.slice r0.a r0.n r0.cap) ∧ w'.cell? ⟨lb, loff + 2, none⟩ = some (.slice r2.a r2.n r2.cap))) := hid (by
    refine (sBad_call _ 3 3 _ 2 _ (M2 V bVw) (by decide)).mono ?_
    rintro e w8 ⟨a8, c8, rfl, _, b8⟩
    have hbl := hH.out.bad_len HLd.out
    rw [rwData_length, HL.out] at hbl
    have hb := (bV.alloc bV.size (.cells #[.slice r0.a r0.n r0.cap, .slice none 0 0, .slice r2.a r2.n r2.cap] 48)).trans (b8.mono (bV.alloc bV.size _).size)
    refine ⟨a8, c8, ?_, hb, Sl.below hb5 hb, (hb.cell (p := ⟨lb, loff, none⟩) z0).trans g0, (hb.cell (p := ⟨lb, loff + 2, none⟩) z0).trans g1⟩
    rw [show (Stp.badL (rwData [r0, ⟨none, 0, 0, []⟩, r2]) 2 3).length = 1 from hbl])
  clear x0 x2
  have x0 := g0
  have x2 := g1
  clear g0 g1
  refine wp_region_held_drew (S := (fun w' => Bt w' a5 3 c5 [7, 8, 9] ∧ w'.cell? ⟨lb, loff, none⟩ = some (.slice r0.a r0.n r0.cap) ∧ w'.cell? ⟨lb, loff + 2, none⟩ = some (.slice r2.a r2.n r2.cap))) (by kernel_rfl) ⟨hb6, x0, x2⟩ (fun hHeld => ?_)
  refine hTake (i := 0) (v := ?_) rfl (by kernel_rfl) (by kernel_rfl) (by kernel_rfl) (fun _ _ _ h => h) rfl ?_ (by assumption) ?_
  rotate_left
  · (intro w hSw; (try dsimp only at hSw); go_simp; try with_reducible rfl)
  try simp only [List.getElem_toArray, List.getElem_cons_succ, List.getElem_cons_zero, Act.put, List.setIfInBounds_toArray, List.set_cons_zero, List.set_cons_succ]
  refine hTake (i := 1) (v := ?_) rfl (by kernel_rfl) (by kernel_rfl) (by kernel_rfl) (fun _ _ _ h => h) rfl ?_ (by assumption) ?_
  rotate_left
  · (intro w hSw; (try dsimp only at hSw); go_simp; try with_reducible rfl)
  try simp only [List.getElem_toArray, List.getElem_cons_succ, List.getElem_cons_zero, Act.put, List.setIfInBounds_toArray, List.set_cons_zero, List.set_cons_succ]
  refine hTake (i := 2) (v := ?_) rfl (by kernel_rfl) (by kernel_rfl) (by kernel_rfl) (fun _ _ _ h => h) rfl ?_ (by assumption) ?_
  rotate_left
  · (intro w hSw; (try dsimp only at hSw); go_simp; try with_reducible rfl)
  try simp only [List.getElem_toArray, List.getElem_cons_succ, List.getElem_cons_zero, Act.put, List.setIfInBounds_toArray, List.set_cons_zero, List.set_cons_succ]
  refine hTake (i := 3) (v := ?_) rfl (by kernel_rfl) (by kernel_rfl) (by kernel_rfl) (fun _ _ _ h => h) rfl ?_ (by assumption) ?_
  rotate_left
  · (intro w hSw; (try dsimp only at hSw); go_simp; try with_reducible rfl)
  try simp only [List.getElem_toArray, List.getElem_cons_succ, List.getElem_cons_zero, Act.put, List.setIfInBounds_toArray, List.set_cons_zero, List.set_cons_succ]
  refine hTake (i := 4) (v := ?_) rfl (by kernel_rfl) (by kernel_rfl) (by kernel_rfl) (fun _ _ _ h => h) rfl ?_ (by assumption) ?_
  rotate_left
  · (intro w hSw; (try dsimp only at hSw); go_simp; try with_reducible rfl)
  try simp only [List.getElem_toArray, List.getElem_cons_succ, List.getElem_cons_zero, Act.put, List.setIfInBounds_toArray, List.set_cons_zero, List.set_cons_succ]
  refine hTake (i := 5) (v := ?_) rfl (by kernel_rfl) (by kernel_rfl) (by kernel_rfl) (fun _ _ _ h => h) rfl ?_ (by assumption) ?_
  rotate_left
  · (intro w hSw; (try dsimp only at hSw); go_simp; try with_reducible rfl)
  try simp only [List.getElem_toArray, List.getElem_cons_succ, List.getElem_cons_zero, Act.put, List.setIfInBounds_toArray, List.set_cons_zero, List.set_cons_succ]
  refine hTake (i := 6) (v := ?_) rfl (by kernel_rfl) (by kernel_rfl) (by kernel_rfl) (fun _ _ _ h => h) rfl ?_ (by assumption) ?_
  rotate_left
  · (intro w hSw; (try dsimp only at hSw); go_simp; try with_reducible rfl)
  try simp only [List.getElem_toArray, List.getElem_cons_succ, List.getElem_cons_zero, Act.put, List.setIfInBounds_toArray, List.set_cons_zero, List.set_cons_succ]
  refine hTake (i := 7) (v := ?_) rfl (by kernel_rfl) (by kernel_rfl) (by kernel_rfl) (fun _ _ _ h => h) rfl ?_ (by assumption) ?_
  rotate_left
  · (intro w hSw; (try dsimp only at hSw); go_simp; try with_reducible rfl)
  try simp only [List.getElem_toArray, List.getElem_cons_succ, List.getElem_cons_zero, Act.put, List.setIfInBounds_toArray, List.set_cons_zero, List.set_cons_succ]
  refine hTake (i := 8) (v := ?_) rfl (by kernel_rfl) (by kernel_rfl) (by kernel_rfl) (fun _ _ _ h => h) rfl ?_ (by assumption) ?_
  rotate_left
  · (intro w hSw; (try dsimp only at hSw); have hStr := Bt.str hSw.1; go_simp; try with_reducible rfl)
  try simp only [List.getElem_toArray, List.getElem_cons_succ, List.getElem_cons_zero, Act.put, List.setIfInBounds_toArray, List.set_cons_zero, List.set_cons_succ]
  refine wpAnyH_ready (rs := [9]) (by kernel_rfl) (by simp) ?_
  refine AllReadyH.cons rfl (fun K hK => ?_) AllReadyH.nil
  simp only [List.getElem_toArray, List.getElem_cons_succ, List.getElem_cons_zero]
  go_simp
  refine hK.out _ _ ⟨hb7, y3, y4⟩ (fun hHeld => ?_)
  clear hK K
  try simp only [List.getElem_toArray, List.getElem_cons_succ, List.getElem_cons_zero, Act.put, List.setIfInBounds_toArray, List.set_cons_zero, List.set_cons_succ]
  refine wpAnyH_ready (rs := [10]) (by kernel_rfl) (by simp) ?_
  refine AllReadyH.cons rfl (fun K hK => ?_) AllReadyH.nil
  simp only [List.getElem_toArray, List.getElem_cons_succ, List.getElem_cons_zero]
  go_simp
  refine hK.out _ _ ⟨hb7, y3, y4⟩ (fun hHeld => ?_)
  clear hK K
  try simp only [List.getElem_toArray, List.getElem_cons_succ, List.getElem_cons_zero, Act.put, List.setIfInBounds_toArray, List.set_cons_zero, List.set_cons_succ]
  refine hTake (i := 11) (v := ?_) rfl (by kernel_rfl) (by kernel_rfl) (by kernel_rfl) (fun _ _ _ h => h) rfl ?_ (by assumption) ?_
  rotate_left
  · (intro w hSw; (try dsimp only at hSw); go_simp; try with_reducible rfl)
  try simp only [List.getElem_toArray, List.getElem_cons_succ, List.getElem_cons_zero, Act.put, List.setIfInBounds_toArray, List.set_cons_zero, List.set_cons_succ]
  refine hTake (i := 12) (v := ?_) rfl (by kernel_rfl) (by kernel_rfl) (by kernel_rfl) (fun _ _ _ h => h) rfl ?_ (by assumption) ?_
  rotate_left
  · (intro w hSw; (try dsimp only at hSw); go_simp; try with_reducible rfl)
  try simp only [List.getElem_toArray, List.getElem_cons_succ, List.getElem_cons_zero, Act.put, List.setIfInBounds_toArray, List.set_cons_zero, List.set_cons_succ]
  refine hTake (i := 13) (v := ?_) rfl (by kernel_rfl) (by kernel_rfl) (by kernel_rfl) (fun _ _ _ h => h) rfl ?_ (by assumption) ?_
  rotate_left
  · (intro w hSw; (try dsimp only at hSw); go_simp; try with_reducible rfl)
  try simp only [List.getElem_toArray, List.getElem_cons_succ, List.getElem_cons_zero, Act.put, List.setIfInBounds_toArray, List.set_cons_zero, List.set_cons_succ]
  refine hTake (i := 14) (v := ?_) rfl (by kernel_rfl) (by kernel_rfl) (by kernel_rfl) (fun _ _ _ h => h) rfl ?_ (by assumption) ?_
  rotate_left
  · (intro w hSw; (try dsimp only at hSw); go_simp; try with_reducible rfl)
  try simp only [List.getElem_toArray, List.getElem_cons_succ, List.getElem_cons_zero, Act.put, List.setIfInBounds_toArray, List.set_cons_zero, List.set_cons_succ]
  refine hTake (i := 15) (v := ?_) rfl (by kernel_rfl) (by kernel_rfl) (by kernel_rfl) (fun _ _ _ h => h) rfl ?_ (by assumption) ?_
  rotate_left
  · (intro w hSw; (try dsimp only at hSw); go_simp; try with_reducible rfl)
  try simp only [List.getElem_toArray, List.getElem_cons_succ, List.getElem_cons_zero, Act.put, List.setIfInBounds_toArray, List.set_cons_zero, List.set_cons_succ]
  refine hTake (i := 16) (v := ?_) rfl (by kernel_rfl) (by kernel_rfl) (by kernel_rfl) (fun _ _ _ h => h) rfl ?_ (by assumption) ?_
  rotate_left
  · (intro w hSw; (try dsimp only at hSw); go_simp; try with_reducible rfl)
  try simp only [List.getElem_toArray, List.getElem_cons_succ, List.getElem_cons_zero, Act.put, List.setIfInBounds_toArray, List.set_cons_zero, List.set_cons_succ]
  refine hTake (i := 17) (v := ?_) rfl (by kernel_rfl) (by kernel_rfl) (by kernel_rfl) (fun _ _ _ h => h) rfl ?_ (by assumption) ?_
  rotate_left
  · (intro w hSw; (try dsimp only at hSw); go_simp; try with_reducible rfl)
  try simp only [List.getElem_toArray, List.getElem_cons_succ, List.getElem_cons_zero, Act.put, List.setIfInBounds_toArray, List.set_cons_zero, List.set_cons_succ]
  refine hTake (i := 18) (v := ?_) rfl (by kernel_rfl) (by kernel_rfl) (by kernel_rfl) (fun _ _ _ h => h) rfl ?_ (by assumption) ?_
  rotate_left
  · (intro w hSw; (try dsimp only at hSw); go_simp; try with_reducible rfl)
  try simp only [List.getElem_toArray, List.getElem_cons_succ, List.getElem_cons_zero, Act.put, List.setIfInBounds_toArray, List.set_cons_zero, List.set_cons_succ]
  refine hTake (i := 19) (v := ?_) rfl (by kernel_rfl) (by kernel_rfl) (by kernel_rfl) (fun _ _ _ h => h) rfl ?_ (by assumption) ?_
  rotate_left
  · (intro w hSw; (try dsimp only at hSw); go_simp; try with_reducible rfl)
  try simp only [List.getElem_toArray, List.getElem_cons_succ, List.getElem_cons_zero, Act.put, List.setIfInBounds_toArray, List.set_cons_zero, List.set_cons_succ]
  refine wpAnyH_ready (rs := [20]) (by kernel_rfl) (by simp) ?_
  refine AllReadyH.cons rfl (fun K hK => ?_) AllReadyH.nil
  simp only [List.getElem_toArray, List.getElem_cons_succ, List.getElem_cons_zero]
  go_simp
  refine hK.out _ _ ⟨Sl.alloc hb7 _, (cell_old y5).trans y3, (cell_old y5).trans y4⟩ (fun hHeld => ?_)
  clear hK K
  try simp only [List.getElem_toArray, List.getElem_cons_succ, List.getElem_cons_zero, Act.put, List.setIfInBounds_toArray, List.set_cons_zero, List.set_cons_succ]
  refine wpAnyH_ready (rs := [21]) (by kernel_rfl) (by simp) ?_
  refine AllReadyH.cons rfl (fun K hK => ?_) AllReadyH.nil
  simp only [List.getElem_toArray, List.getElem_cons_succ, List.getElem_cons_zero]
  go_simp
  go_at_call 28; refine (D2.out).mono ?_; rintro e w5 ⟨a8, c8, rfl, b8, hb8, g0, g1⟩
  go_wp2_with fail
  refine hK.out _ _ ⟨hb8, g0, g1⟩ (fun hHeld => ?_)
  clear hK K
  try simp only [List.getElem_toArray, List.getElem_cons_succ, List.getElem_cons_zero, Act.put, List.setIfInBounds_toArray, List.set_cons_zero, List.set_cons_succ]
  refine hTake (i := 22) (v := ?_) rfl (by kernel_rfl) (by kernel_rfl) (by kernel_rfl) (fun _ _ _ h => h) rfl ?_ (by assumption) ?_
  rotate_left
  · (intro w hSw; (try dsimp only at hSw); go_simp; try with_reducible rfl)
  try simp only [List.getElem_toArray, List.getElem_cons_succ, List.getElem_cons_zero, Act.put, List.setIfInBounds_toArray, List.set_cons_zero, List.set_cons_succ]
  refine hTake (i := 23) (v := ?_) rfl (by kernel_rfl) (by kernel_rfl) (by kernel_rfl) (fun _ _ _ h => h) rfl ?_ (by assumption) ?_
  rotate_left
  · (intro w hSw; (try dsimp only at hSw); go_simp; try with_reducible rfl)
  try simp only [List.getElem_toArray, List.getElem_cons_succ, List.getElem_cons_zero, Act.put, List.setIfInBounds_toArray, List.set_cons_zero, List.set_cons_succ]
  refine hTake (i := 24) (v := ?_) rfl (by kernel_rfl) (by kernel_rfl) (by kernel_rfl) (fun _ _ _ h => h) rfl ?_ (by assumption) ?_
  rotate_left
  · (intro w hSw; (try dsimp only at hSw); go_simp; try with_reducible rfl)
  try simp only [List.getElem_toArray, List.getElem_cons_succ, List.getElem_cons_zero, Act.put, List.setIfInBounds_toArray, List.set_cons_zero, List.set_cons_succ]
  refine hTake (i := 25) (v := ?_) rfl (by kernel_rfl) (by kernel_rfl) (by kernel_rfl) (fun _ _ _ h => h) rfl ?_ (by assumption) ?_
  rotate_left
  · (intro w hSw; (try dsimp only at hSw); go_simp; try with_reducible rfl)
  try simp only [List.getElem_toArray, List.getElem_cons_succ, List.getElem_cons_zero, Act.put, List.setIfInBounds_toArray, List.set_cons_zero, List.set_cons_succ]
  refine wpAnyH_done (by kernel_rfl) ?_ _
  go_wp2_with fail
  go_ret
  exact ⟨rfl, bnext bw5 b8⟩

end Go.Proofs.Ytjdgfijpmljhiaa
