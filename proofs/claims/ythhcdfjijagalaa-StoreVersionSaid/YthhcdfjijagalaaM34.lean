/- Joined, and what is not used struck: SpC, SpW. -/
import Derived.Test.YthhcdfjijagalaaM33
import Derived.Test.YthhcdfjijagalaaM16
import Derived.Test.YthhcdfjijagalaaM06
namespace Go.Proofs.Ythhcdfjijagalaa
open Go.RowKit
set_option linter.unusedVariables false
set_option linter.unusedSimpArgs false
set_option maxRecDepth 100000
theorem mut_read {base p : Nat} {m : Mst} {a : Sto.An} {w w' : World} {e : Ending} (h : StR w base p m) (hr : ∃ v, e = .returned v ∧ AnO w' base v a ∧ Below w.heap.size w w') : MutRes base p m.st a w e w' := by
  obtain ⟨v, h1, h2, h3⟩ := hr
  exact ⟨v, m, h1, h2, h.below h3, rfl, Kt.below h3, h3.mono (Nat.le_trans h.le (Nat.le_of_lt h.lt))⟩
set_option maxHeartbeats 4000000 in
theorem stdo_call (base p : Nat) (m : Mst) (K : Nat) (db off : Nat) (d : Sto.Do) (w : World) (h : StR w base p m) (hk : Sto.Ok m.st K) (hK : K ≤ 100) (hd : DoR w db off d) (hdB : ∀ W, Below base w W → DoR W db off d) :
    Calls Try.prog 31 #[.pointer (some ⟨p, 0, none⟩), .pointer (some ⟨db, off, none⟩)] w (MutRes base p (Sto.step m.st d).1 (Sto.step m.st d).2 w) := by
  have hbase : base ≤ w.heap.size := Nat.le_trans h.le (Nat.le_of_lt h.lt)
  have HS := hid (h.alloc (.cells #[.int .i64 0, .int .i64 0, .slice none 0 0, .int .i64 0, .slice none 0 0] 50))
  have HV := hid (blk_new w (.cells #[.int .i64 0, .int .i64 0, .slice none 0 0, .int .i64 0, .slice none 0 0] 50))
  have HW := hid ((Below.refl w.heap.size w).alloc (Nat.le_refl _) (.cells #[.int .i64 0, .int .i64 0, .slice none 0 0, .int .i64 0, .slice none 0 0] 50))
  have HD := hid hd
  have H0 := hid h
  have hdB : ∀ W, Below base (w.alloc (.cells #[.int .i64 0, .int .i64 0, .slice none 0 0, .int .i64 0, .slice none 0 0] 50)) W → DoR W db off d := fun W hW => hdB W ((HW.out.mono hbase).trans hW)
  obtain ⟨wb, hwb⟩ : ∃ wb, wb = w.alloc (.cells #[.int .i64 0, .int .i64 0, .slice none 0 0, .int .i64 0, .slice none 0 0] 50) := ⟨_, rfl⟩
  rw [← hwb] at HS HV HW hdB
  have k0 : (w.alloc (.cells #[.int .i64 0, .int .i64 0, .slice none 0 0, .int .i64 0, .slice none 0 0] 50)).cell? ⟨db, off, none⟩ = some (.int .i64 d.kind) := by rw [← hwb]; exact (HD.out.below HW.out).kind
  have HWB := hid hwb
  rcases Classical.em (d.kind = 1) with hkd | h1
  · have n2 : (d.kind == 2) = false := by simp; omega
    have n3 : (d.kind == 3) = false := by simp; omega
    have n4 : (d.kind == 4) = false := by simp; omega
    have n5 : (d.kind == 5) = false := by simp; omega
    have n6 : (d.kind == 6) = false := by simp; omega
    have n7 : (d.kind == 7) = false := by simp; omega
    have n8 : (d.kind == 8) = false := by simp; omega
    have n9 : (d.kind == 9) = false := by simp; omega
    have y1 : (d.kind == 1) = true := by simp; omega
    have HST := hid (show Sto.step m.st d = Sto.put m.st d from by unfold Sto.step; rw [if_pos (by omega)])
    have DD := hid (show Calls Try.prog 39 #[.pointer (some ⟨p, 0, none⟩), .pointer (some ⟨db, off, none⟩)] wb (MutRes base p ((Sto.put m.st d).1) ((Sto.put m.st d).2) wb) from stput_call base p m K db off d wb HS.out hk hK (HD.out.below HW.out) hdB)
    clear hk hdB hd h
    replace hkd := hid hkd
    go_enter Try.func31, Try.ntmps31
    clear hwb
    go_wp2_with fail
    have hwb := HWB.out
    rw [← hwb]
    have hwB : w.heap.size < wb.heap.size := by rw [hwb]; simp
    obtain ⟨B, hB⟩ : ∃ B, B = w.heap.size := ⟨_, rfl⟩
    rw [← hB] at HV ⊢
    have hB' := Nat.le_of_eq hB.symm
    have hBb : base ≤ B := by omega
    replace hB := hid hB
    clear hwb k0
    go_at_call 39; refine (DD.out).mono ?_; rintro e w1 ⟨v, m', rfl, hv, X1, hm1, K1, B1⟩
    obtain ⟨ea, ec, aa, ac, rfl, hE, hA⟩ := hv
    have v1 := K1.block B _ 50 HV.out (by decide)
    have b1 := (HW.out.mono hbase).trans B1
    have XX := hid X1
    have KK := hid ((Kt.below HW.out).trans K1)
    have EE := hid hE
    have AA := hid hA
    replace hm1 := hid hm1
    clear X1 K1 B1 hE hA DD
    unfold ansVal
    obtain ⟨an, han⟩ : ∃ an, an = (Sto.put m.st d).2 := ⟨_, rfl⟩
    rw [← han] at EE AA ⊢
    replace han := hid han
    have r0 : w1.cell? ⟨B, 0, none⟩ = some (.int .i64 0) := blk_cell v1
    have r1 : w1.cell? ⟨B, 1, none⟩ = some (.int .i64 0) := blk_cell v1
    have r2 : w1.cell? ⟨B, 2, none⟩ = some (.slice none 0 0) := blk_cell v1
    have r3 : w1.cell? ⟨B, 3, none⟩ = some (.int .i64 0) := blk_cell v1
    have r4 : w1.cell? ⟨B, 4, none⟩ = some (.slice none 0 0) := blk_cell v1
    have f0 : ∀ j, w1.frozen? ⟨B, j, none⟩ = false := fun j => blk_free v1
    go_wp2_with fail
    obtain ⟨W, hW, q, hBW, hOW, hown⟩ := set5_facts b1 hBb v1 (.int .i64 an.err) (.int .i64 an.n) (.slice ea an.evs.length ec) (.int .i64 an.view.upto) (.slice aa an.view.accs.length ac)
    rw [hW]
    have q0 := blk_cell (i := 0) q
    have q1 := blk_cell (i := 1) q
    have q2 := blk_cell (i := 2) q
    have q3 := blk_cell (i := 3) q
    have q4 := blk_cell (i := 4) q
    exact bodyPost_ret (v := ansVal an.err an.n (.slice ea an.evs.length ec) an.view.upto (.slice aa an.view.accs.length ac)) (by unfold ansVal; simp [results, Try.results31, go_sem, q0, q1, q2, q3, q4]) rfl (by
      show MutRes base p (Sto.step m.st d).1 (Sto.step m.st d).2 w _ _
      rw [HST.out]
      show MutRes base p ((Sto.put m.st d).1) ((Sto.put m.st d).2) w _ _
      rw [← han.out]
      exact ⟨_, m', rfl, ⟨ea, ec, aa, ac, rfl, ⟨hown EE.out.1 (by decide), EE.out.2⟩, ⟨hown AA.out.1 (by decide), AA.out.2⟩⟩, XX.out.off hOW v1 (by decide), hm1.out, KK.out.off hOW hB', hBW⟩)
  rcases Classical.em (d.kind = 2) with hkd | h2
  · have n1 : (d.kind == 1) = false := by simp; omega
    have n3 : (d.kind == 3) = false := by simp; omega
    have n4 : (d.kind == 4) = false := by simp; omega
    have n5 : (d.kind == 5) = false := by simp; omega
    have n6 : (d.kind == 6) = false := by simp; omega
    have n7 : (d.kind == 7) = false := by simp; omega
    have n8 : (d.kind == 8) = false := by simp; omega
    have n9 : (d.kind == 9) = false := by simp; omega
    have y2 : (d.kind == 2) = true := by simp; omega
    have HST := hid (show Sto.step m.st d = (m.st, Sto.read m.st d) from by unfold Sto.step; rw [if_neg (by omega), if_pos (by omega)])
    have DD := hid (show Calls Try.prog 40 #[.pointer (some ⟨p, 0, none⟩), .pointer (some ⟨db, off, none⟩)] wb (MutRes base p (m.st) (Sto.read m.st d) wb) from (stread_call base p m K db off d wb HS.out hk (HD.out.below HW.out)).mono fun e w' hr => mut_read HS.out hr)
    clear hk hdB hd h
    replace hkd := hid hkd
    go_enter Try.func31, Try.ntmps31
    clear hwb
    go_wp2_with fail
    have hwb := HWB.out
    rw [← hwb]
    have hwB : w.heap.size < wb.heap.size := by rw [hwb]; simp
    obtain ⟨B, hB⟩ : ∃ B, B = w.heap.size := ⟨_, rfl⟩
    rw [← hB] at HV ⊢
    have hB' := Nat.le_of_eq hB.symm
    have hBb : base ≤ B := by omega
    replace hB := hid hB
    clear hwb k0
    go_at_call 40; refine (DD.out).mono ?_; rintro e w1 ⟨v, m', rfl, hv, X1, hm1, K1, B1⟩
    obtain ⟨ea, ec, aa, ac, rfl, hE, hA⟩ := hv
    have v1 := K1.block B _ 50 HV.out (by decide)
    have b1 := (HW.out.mono hbase).trans B1
    have XX := hid X1
    have KK := hid ((Kt.below HW.out).trans K1)
    have EE := hid hE
    have AA := hid hA
    replace hm1 := hid hm1
    clear X1 K1 B1 hE hA DD
    unfold ansVal
    obtain ⟨an, han⟩ : ∃ an, an = Sto.read m.st d := ⟨_, rfl⟩
    rw [← han] at EE AA ⊢
    replace han := hid han
    have r0 : w1.cell? ⟨B, 0, none⟩ = some (.int .i64 0) := blk_cell v1
    have r1 : w1.cell? ⟨B, 1, none⟩ = some (.int .i64 0) := blk_cell v1
    have r2 : w1.cell? ⟨B, 2, none⟩ = some (.slice none 0 0) := blk_cell v1
    have r3 : w1.cell? ⟨B, 3, none⟩ = some (.int .i64 0) := blk_cell v1
    have r4 : w1.cell? ⟨B, 4, none⟩ = some (.slice none 0 0) := blk_cell v1
    have f0 : ∀ j, w1.frozen? ⟨B, j, none⟩ = false := fun j => blk_free v1
    go_wp2_with fail
    obtain ⟨W, hW, q, hBW, hOW, hown⟩ := set5_facts b1 hBb v1 (.int .i64 an.err) (.int .i64 an.n) (.slice ea an.evs.length ec) (.int .i64 an.view.upto) (.slice aa an.view.accs.length ac)
    rw [hW]
    have q0 := blk_cell (i := 0) q
    have q1 := blk_cell (i := 1) q
    have q2 := blk_cell (i := 2) q
    have q3 := blk_cell (i := 3) q
    have q4 := blk_cell (i := 4) q
    exact bodyPost_ret (v := ansVal an.err an.n (.slice ea an.evs.length ec) an.view.upto (.slice aa an.view.accs.length ac)) (by unfold ansVal; simp [results, Try.results31, go_sem, q0, q1, q2, q3, q4]) rfl (by
      show MutRes base p (Sto.step m.st d).1 (Sto.step m.st d).2 w _ _
      rw [HST.out]
      show MutRes base p (m.st) (Sto.read m.st d) w _ _
      rw [← han.out]
      exact ⟨_, m', rfl, ⟨ea, ec, aa, ac, rfl, ⟨hown EE.out.1 (by decide), EE.out.2⟩, ⟨hown AA.out.1 (by decide), AA.out.2⟩⟩, XX.out.off hOW v1 (by decide), hm1.out, KK.out.off hOW hB', hBW⟩)
  rcases Classical.em (d.kind = 3) with hkd | h3
  · have n1 : (d.kind == 1) = false := by simp; omega
    have n2 : (d.kind == 2) = false := by simp; omega
    have n4 : (d.kind == 4) = false := by simp; omega
    have n5 : (d.kind == 5) = false := by simp; omega
    have n6 : (d.kind == 6) = false := by simp; omega
    have n7 : (d.kind == 7) = false := by simp; omega
    have n8 : (d.kind == 8) = false := by simp; omega
    have n9 : (d.kind == 9) = false := by simp; omega
    have y3 : (d.kind == 3) = true := by simp; omega
    have HST := hid (show Sto.step m.st d = (m.st, Sto.read m.st d) from by unfold Sto.step; rw [if_neg (by omega), if_pos (by omega)])
    have DD := hid (show Calls Try.prog 40 #[.pointer (some ⟨p, 0, none⟩), .pointer (some ⟨db, off, none⟩)] wb (MutRes base p (m.st) (Sto.read m.st d) wb) from (stread_call base p m K db off d wb HS.out hk (HD.out.below HW.out)).mono fun e w' hr => mut_read HS.out hr)
    clear hk hdB hd h
    replace hkd := hid hkd
    go_enter Try.func31, Try.ntmps31
    clear hwb
    go_wp2_with fail
    have hwb := HWB.out
    rw [← hwb]
    have hwB : w.heap.size < wb.heap.size := by rw [hwb]; simp
    obtain ⟨B, hB⟩ : ∃ B, B = w.heap.size := ⟨_, rfl⟩
    rw [← hB] at HV ⊢
    have hB' := Nat.le_of_eq hB.symm
    have hBb : base ≤ B := by omega
    replace hB := hid hB
    clear hwb k0
    go_at_call 40; refine (DD.out).mono ?_; rintro e w1 ⟨v, m', rfl, hv, X1, hm1, K1, B1⟩
    obtain ⟨ea, ec, aa, ac, rfl, hE, hA⟩ := hv
    have v1 := K1.block B _ 50 HV.out (by decide)
    have b1 := (HW.out.mono hbase).trans B1
    have XX := hid X1
    have KK := hid ((Kt.below HW.out).trans K1)
    have EE := hid hE
    have AA := hid hA
    replace hm1 := hid hm1
    clear X1 K1 B1 hE hA DD
    unfold ansVal
    obtain ⟨an, han⟩ : ∃ an, an = Sto.read m.st d := ⟨_, rfl⟩
    rw [← han] at EE AA ⊢
    replace han := hid han
    have r0 : w1.cell? ⟨B, 0, none⟩ = some (.int .i64 0) := blk_cell v1
    have r1 : w1.cell? ⟨B, 1, none⟩ = some (.int .i64 0) := blk_cell v1
    have r2 : w1.cell? ⟨B, 2, none⟩ = some (.slice none 0 0) := blk_cell v1
    have r3 : w1.cell? ⟨B, 3, none⟩ = some (.int .i64 0) := blk_cell v1
    have r4 : w1.cell? ⟨B, 4, none⟩ = some (.slice none 0 0) := blk_cell v1
    have f0 : ∀ j, w1.frozen? ⟨B, j, none⟩ = false := fun j => blk_free v1
    go_wp2_with fail
    obtain ⟨W, hW, q, hBW, hOW, hown⟩ := set5_facts b1 hBb v1 (.int .i64 an.err) (.int .i64 an.n) (.slice ea an.evs.length ec) (.int .i64 an.view.upto) (.slice aa an.view.accs.length ac)
    rw [hW]
    have q0 := blk_cell (i := 0) q
    have q1 := blk_cell (i := 1) q
    have q2 := blk_cell (i := 2) q
    have q3 := blk_cell (i := 3) q
    have q4 := blk_cell (i := 4) q
    exact bodyPost_ret (v := ansVal an.err an.n (.slice ea an.evs.length ec) an.view.upto (.slice aa an.view.accs.length ac)) (by unfold ansVal; simp [results, Try.results31, go_sem, q0, q1, q2, q3, q4]) rfl (by
      show MutRes base p (Sto.step m.st d).1 (Sto.step m.st d).2 w _ _
      rw [HST.out]
      show MutRes base p (m.st) (Sto.read m.st d) w _ _
      rw [← han.out]
      exact ⟨_, m', rfl, ⟨ea, ec, aa, ac, rfl, ⟨hown EE.out.1 (by decide), EE.out.2⟩, ⟨hown AA.out.1 (by decide), AA.out.2⟩⟩, XX.out.off hOW v1 (by decide), hm1.out, KK.out.off hOW hB', hBW⟩)
  rcases Classical.em (d.kind = 4) with hkd | h4
  · have n1 : (d.kind == 1) = false := by simp; omega
    have n2 : (d.kind == 2) = false := by simp; omega
    have n3 : (d.kind == 3) = false := by simp; omega
    have n5 : (d.kind == 5) = false := by simp; omega
    have n6 : (d.kind == 6) = false := by simp; omega
    have n7 : (d.kind == 7) = false := by simp; omega
    have n8 : (d.kind == 8) = false := by simp; omega
    have n9 : (d.kind == 9) = false := by simp; omega
    have y4 : (d.kind == 4) = true := by simp; omega
    have HST := hid (show Sto.step m.st d = (m.st, Sto.look m.st) from by unfold Sto.step; rw [if_neg (by omega), if_neg (by omega), if_pos (by omega)])
    have DD := hid (show Calls Try.prog 41 #[.pointer (some ⟨p, 0, none⟩)] wb (MutRes base p (m.st) (Sto.look m.st) wb) from (stlook_call base p m K wb HS.out hk).mono fun e w' hr => mut_read HS.out hr)
    clear hk hdB hd h
    replace hkd := hid hkd
    go_enter Try.func31, Try.ntmps31
    clear hwb
    go_wp2_with fail
    have hwb := HWB.out
    rw [← hwb]
    have hwB : w.heap.size < wb.heap.size := by rw [hwb]; simp
    obtain ⟨B, hB⟩ : ∃ B, B = w.heap.size := ⟨_, rfl⟩
    rw [← hB] at HV ⊢
    have hB' := Nat.le_of_eq hB.symm
    have hBb : base ≤ B := by omega
    replace hB := hid hB
    clear hwb k0
    go_at_call 41; refine (DD.out).mono ?_; rintro e w1 ⟨v, m', rfl, hv, X1, hm1, K1, B1⟩
    obtain ⟨ea, ec, aa, ac, rfl, hE, hA⟩ := hv
    have v1 := K1.block B _ 50 HV.out (by decide)
    have b1 := (HW.out.mono hbase).trans B1
    have XX := hid X1
    have KK := hid ((Kt.below HW.out).trans K1)
    have EE := hid hE
    have AA := hid hA
    replace hm1 := hid hm1
    clear X1 K1 B1 hE hA DD
    unfold ansVal
    obtain ⟨an, han⟩ : ∃ an, an = Sto.look m.st := ⟨_, rfl⟩
    rw [← han] at EE AA ⊢
    replace han := hid han
    have r0 : w1.cell? ⟨B, 0, none⟩ = some (.int .i64 0) := blk_cell v1
    have r1 : w1.cell? ⟨B, 1, none⟩ = some (.int .i64 0) := blk_cell v1
    have r2 : w1.cell? ⟨B, 2, none⟩ = some (.slice none 0 0) := blk_cell v1
    have r3 : w1.cell? ⟨B, 3, none⟩ = some (.int .i64 0) := blk_cell v1
    have r4 : w1.cell? ⟨B, 4, none⟩ = some (.slice none 0 0) := blk_cell v1
    have f0 : ∀ j, w1.frozen? ⟨B, j, none⟩ = false := fun j => blk_free v1
    go_wp2_with fail
    obtain ⟨W, hW, q, hBW, hOW, hown⟩ := set5_facts b1 hBb v1 (.int .i64 an.err) (.int .i64 an.n) (.slice ea an.evs.length ec) (.int .i64 an.view.upto) (.slice aa an.view.accs.length ac)
    rw [hW]
    have q0 := blk_cell (i := 0) q
    have q1 := blk_cell (i := 1) q
    have q2 := blk_cell (i := 2) q
    have q3 := blk_cell (i := 3) q
    have q4 := blk_cell (i := 4) q
    exact bodyPost_ret (v := ansVal an.err an.n (.slice ea an.evs.length ec) an.view.upto (.slice aa an.view.accs.length ac)) (by unfold ansVal; simp [results, Try.results31, go_sem, q0, q1, q2, q3, q4]) rfl (by
      show MutRes base p (Sto.step m.st d).1 (Sto.step m.st d).2 w _ _
      rw [HST.out]
      show MutRes base p (m.st) (Sto.look m.st) w _ _
      rw [← han.out]
      exact ⟨_, m', rfl, ⟨ea, ec, aa, ac, rfl, ⟨hown EE.out.1 (by decide), EE.out.2⟩, ⟨hown AA.out.1 (by decide), AA.out.2⟩⟩, XX.out.off hOW v1 (by decide), hm1.out, KK.out.off hOW hB', hBW⟩)
  rcases Classical.em (d.kind = 5) with hkd | h5
  · have n1 : (d.kind == 1) = false := by simp; omega
    have n2 : (d.kind == 2) = false := by simp; omega
    have n3 : (d.kind == 3) = false := by simp; omega
    have n4 : (d.kind == 4) = false := by simp; omega
    have n6 : (d.kind == 6) = false := by simp; omega
    have n7 : (d.kind == 7) = false := by simp; omega
    have n8 : (d.kind == 8) = false := by simp; omega
    have n9 : (d.kind == 9) = false := by simp; omega
    have y5 : (d.kind == 5) = true := by simp; omega
    have HST := hid (show Sto.step m.st d = Sto.harm m.st d from by unfold Sto.step; rw [if_neg (by omega), if_neg (by omega), if_neg (by omega), if_pos (by omega)])
    have DD := hid (show Calls Try.prog 42 #[.pointer (some ⟨p, 0, none⟩), .pointer (some ⟨db, off, none⟩)] wb (MutRes base p ((Sto.harm m.st d).1) ((Sto.harm m.st d).2) wb) from stharm_call base p m K db off d wb HS.out hk (HD.out.below HW.out))
    clear hk hdB hd h
    replace hkd := hid hkd
    go_enter Try.func31, Try.ntmps31
    clear hwb
    go_wp2_with fail
    have hwb := HWB.out
    rw [← hwb]
    have hwB : w.heap.size < wb.heap.size := by rw [hwb]; simp
    obtain ⟨B, hB⟩ : ∃ B, B = w.heap.size := ⟨_, rfl⟩
    rw [← hB] at HV ⊢
    have hB' := Nat.le_of_eq hB.symm
    have hBb : base ≤ B := by omega
    replace hB := hid hB
    clear hwb k0
    go_at_call 42; refine (DD.out).mono ?_; rintro e w1 ⟨v, m', rfl, hv, X1, hm1, K1, B1⟩
    obtain ⟨ea, ec, aa, ac, rfl, hE, hA⟩ := hv
    have v1 := K1.block B _ 50 HV.out (by decide)
    have b1 := (HW.out.mono hbase).trans B1
    have XX := hid X1
    have KK := hid ((Kt.below HW.out).trans K1)
    have EE := hid hE
    have AA := hid hA
    replace hm1 := hid hm1
    clear X1 K1 B1 hE hA DD
    unfold ansVal
    obtain ⟨an, han⟩ : ∃ an, an = (Sto.harm m.st d).2 := ⟨_, rfl⟩
    rw [← han] at EE AA ⊢
    replace han := hid han
    have r0 : w1.cell? ⟨B, 0, none⟩ = some (.int .i64 0) := blk_cell v1
    have r1 : w1.cell? ⟨B, 1, none⟩ = some (.int .i64 0) := blk_cell v1
    have r2 : w1.cell? ⟨B, 2, none⟩ = some (.slice none 0 0) := blk_cell v1
    have r3 : w1.cell? ⟨B, 3, none⟩ = some (.int .i64 0) := blk_cell v1
    have r4 : w1.cell? ⟨B, 4, none⟩ = some (.slice none 0 0) := blk_cell v1
    have f0 : ∀ j, w1.frozen? ⟨B, j, none⟩ = false := fun j => blk_free v1
    go_wp2_with fail
    obtain ⟨W, hW, q, hBW, hOW, hown⟩ := set5_facts b1 hBb v1 (.int .i64 an.err) (.int .i64 an.n) (.slice ea an.evs.length ec) (.int .i64 an.view.upto) (.slice aa an.view.accs.length ac)
    rw [hW]
    have q0 := blk_cell (i := 0) q
    have q1 := blk_cell (i := 1) q
    have q2 := blk_cell (i := 2) q
    have q3 := blk_cell (i := 3) q
    have q4 := blk_cell (i := 4) q
    exact bodyPost_ret (v := ansVal an.err an.n (.slice ea an.evs.length ec) an.view.upto (.slice aa an.view.accs.length ac)) (by unfold ansVal; simp [results, Try.results31, go_sem, q0, q1, q2, q3, q4]) rfl (by
      show MutRes base p (Sto.step m.st d).1 (Sto.step m.st d).2 w _ _
      rw [HST.out]
      show MutRes base p ((Sto.harm m.st d).1) ((Sto.harm m.st d).2) w _ _
      rw [← han.out]
      exact ⟨_, m', rfl, ⟨ea, ec, aa, ac, rfl, ⟨hown EE.out.1 (by decide), EE.out.2⟩, ⟨hown AA.out.1 (by decide), AA.out.2⟩⟩, XX.out.off hOW v1 (by decide), hm1.out, KK.out.off hOW hB', hBW⟩)
  rcases Classical.em (d.kind = 6) with hkd | h6
  · have n1 : (d.kind == 1) = false := by simp; omega
    have n2 : (d.kind == 2) = false := by simp; omega
    have n3 : (d.kind == 3) = false := by simp; omega
    have n4 : (d.kind == 4) = false := by simp; omega
    have n5 : (d.kind == 5) = false := by simp; omega
    have n7 : (d.kind == 7) = false := by simp; omega
    have n8 : (d.kind == 8) = false := by simp; omega
    have n9 : (d.kind == 9) = false := by simp; omega
    have y6 : (d.kind == 6) = true := by simp; omega
    have HST := hid (show Sto.step m.st d = Sto.harm m.st d from by unfold Sto.step; rw [if_neg (by omega), if_neg (by omega), if_neg (by omega), if_pos (by omega)])
    have DD := hid (show Calls Try.prog 42 #[.pointer (some ⟨p, 0, none⟩), .pointer (some ⟨db, off, none⟩)] wb (MutRes base p ((Sto.harm m.st d).1) ((Sto.harm m.st d).2) wb) from stharm_call base p m K db off d wb HS.out hk (HD.out.below HW.out))
    clear hk hdB hd h
    replace hkd := hid hkd
    go_enter Try.func31, Try.ntmps31
    clear hwb
    go_wp2_with fail
    have hwb := HWB.out
    rw [← hwb]
    have hwB : w.heap.size < wb.heap.size := by rw [hwb]; simp
    obtain ⟨B, hB⟩ : ∃ B, B = w.heap.size := ⟨_, rfl⟩
    rw [← hB] at HV ⊢
    have hB' := Nat.le_of_eq hB.symm
    have hBb : base ≤ B := by omega
    replace hB := hid hB
    clear hwb k0
    go_at_call 42; refine (DD.out).mono ?_; rintro e w1 ⟨v, m', rfl, hv, X1, hm1, K1, B1⟩
    obtain ⟨ea, ec, aa, ac, rfl, hE, hA⟩ := hv
    have v1 := K1.block B _ 50 HV.out (by decide)
    have b1 := (HW.out.mono hbase).trans B1
    have XX := hid X1
    have KK := hid ((Kt.below HW.out).trans K1)
    have EE := hid hE
    have AA := hid hA
    replace hm1 := hid hm1
    clear X1 K1 B1 hE hA DD
    unfold ansVal
    obtain ⟨an, han⟩ : ∃ an, an = (Sto.harm m.st d).2 := ⟨_, rfl⟩
    rw [← han] at EE AA ⊢
    replace han := hid han
    have r0 : w1.cell? ⟨B, 0, none⟩ = some (.int .i64 0) := blk_cell v1
    have r1 : w1.cell? ⟨B, 1, none⟩ = some (.int .i64 0) := blk_cell v1
    have r2 : w1.cell? ⟨B, 2, none⟩ = some (.slice none 0 0) := blk_cell v1
    have r3 : w1.cell? ⟨B, 3, none⟩ = some (.int .i64 0) := blk_cell v1
    have r4 : w1.cell? ⟨B, 4, none⟩ = some (.slice none 0 0) := blk_cell v1
    have f0 : ∀ j, w1.frozen? ⟨B, j, none⟩ = false := fun j => blk_free v1
    go_wp2_with fail
    obtain ⟨W, hW, q, hBW, hOW, hown⟩ := set5_facts b1 hBb v1 (.int .i64 an.err) (.int .i64 an.n) (.slice ea an.evs.length ec) (.int .i64 an.view.upto) (.slice aa an.view.accs.length ac)
    rw [hW]
    have q0 := blk_cell (i := 0) q
    have q1 := blk_cell (i := 1) q
    have q2 := blk_cell (i := 2) q
    have q3 := blk_cell (i := 3) q
    have q4 := blk_cell (i := 4) q
    exact bodyPost_ret (v := ansVal an.err an.n (.slice ea an.evs.length ec) an.view.upto (.slice aa an.view.accs.length ac)) (by unfold ansVal; simp [results, Try.results31, go_sem, q0, q1, q2, q3, q4]) rfl (by
      show MutRes base p (Sto.step m.st d).1 (Sto.step m.st d).2 w _ _
      rw [HST.out]
      show MutRes base p ((Sto.harm m.st d).1) ((Sto.harm m.st d).2) w _ _
      rw [← han.out]
      exact ⟨_, m', rfl, ⟨ea, ec, aa, ac, rfl, ⟨hown EE.out.1 (by decide), EE.out.2⟩, ⟨hown AA.out.1 (by decide), AA.out.2⟩⟩, XX.out.off hOW v1 (by decide), hm1.out, KK.out.off hOW hB', hBW⟩)
  rcases Classical.em (d.kind = 7) with hkd | h7
  · have n1 : (d.kind == 1) = false := by simp; omega
    have n2 : (d.kind == 2) = false := by simp; omega
    have n3 : (d.kind == 3) = false := by simp; omega
    have n4 : (d.kind == 4) = false := by simp; omega
    have n5 : (d.kind == 5) = false := by simp; omega
    have n6 : (d.kind == 6) = false := by simp; omega
    have n8 : (d.kind == 8) = false := by simp; omega
    have n9 : (d.kind == 9) = false := by simp; omega
    have y7 : (d.kind == 7) = true := by simp; omega
    have HST := hid (show Sto.step m.st d = Sto.harm m.st d from by unfold Sto.step; rw [if_neg (by omega), if_neg (by omega), if_neg (by omega), if_pos (by omega)])
    have DD := hid (show Calls Try.prog 42 #[.pointer (some ⟨p, 0, none⟩), .pointer (some ⟨db, off, none⟩)] wb (MutRes base p ((Sto.harm m.st d).1) ((Sto.harm m.st d).2) wb) from stharm_call base p m K db off d wb HS.out hk (HD.out.below HW.out))
    clear hk hdB hd h
    replace hkd := hid hkd
    go_enter Try.func31, Try.ntmps31
    clear hwb
    go_wp2_with fail
    have hwb := HWB.out
    rw [← hwb]
    have hwB : w.heap.size < wb.heap.size := by rw [hwb]; simp
    obtain ⟨B, hB⟩ : ∃ B, B = w.heap.size := ⟨_, rfl⟩
    rw [← hB] at HV ⊢
    have hB' := Nat.le_of_eq hB.symm
    have hBb : base ≤ B := by omega
    replace hB := hid hB
    clear hwb k0
    go_at_call 42; refine (DD.out).mono ?_; rintro e w1 ⟨v, m', rfl, hv, X1, hm1, K1, B1⟩
    obtain ⟨ea, ec, aa, ac, rfl, hE, hA⟩ := hv
    have v1 := K1.block B _ 50 HV.out (by decide)
    have b1 := (HW.out.mono hbase).trans B1
    have XX := hid X1
    have KK := hid ((Kt.below HW.out).trans K1)
    have EE := hid hE
    have AA := hid hA
    replace hm1 := hid hm1
    clear X1 K1 B1 hE hA DD
    unfold ansVal
    obtain ⟨an, han⟩ : ∃ an, an = (Sto.harm m.st d).2 := ⟨_, rfl⟩
    rw [← han] at EE AA ⊢
    replace han := hid han
    have r0 : w1.cell? ⟨B, 0, none⟩ = some (.int .i64 0) := blk_cell v1
    have r1 : w1.cell? ⟨B, 1, none⟩ = some (.int .i64 0) := blk_cell v1
    have r2 : w1.cell? ⟨B, 2, none⟩ = some (.slice none 0 0) := blk_cell v1
    have r3 : w1.cell? ⟨B, 3, none⟩ = some (.int .i64 0) := blk_cell v1
    have r4 : w1.cell? ⟨B, 4, none⟩ = some (.slice none 0 0) := blk_cell v1
    have f0 : ∀ j, w1.frozen? ⟨B, j, none⟩ = false := fun j => blk_free v1
    go_wp2_with fail
    obtain ⟨W, hW, q, hBW, hOW, hown⟩ := set5_facts b1 hBb v1 (.int .i64 an.err) (.int .i64 an.n) (.slice ea an.evs.length ec) (.int .i64 an.view.upto) (.slice aa an.view.accs.length ac)
    rw [hW]
    have q0 := blk_cell (i := 0) q
    have q1 := blk_cell (i := 1) q
    have q2 := blk_cell (i := 2) q
    have q3 := blk_cell (i := 3) q
    have q4 := blk_cell (i := 4) q
    exact bodyPost_ret (v := ansVal an.err an.n (.slice ea an.evs.length ec) an.view.upto (.slice aa an.view.accs.length ac)) (by unfold ansVal; simp [results, Try.results31, go_sem, q0, q1, q2, q3, q4]) rfl (by
      show MutRes base p (Sto.step m.st d).1 (Sto.step m.st d).2 w _ _
      rw [HST.out]
      show MutRes base p ((Sto.harm m.st d).1) ((Sto.harm m.st d).2) w _ _
      rw [← han.out]
      exact ⟨_, m', rfl, ⟨ea, ec, aa, ac, rfl, ⟨hown EE.out.1 (by decide), EE.out.2⟩, ⟨hown AA.out.1 (by decide), AA.out.2⟩⟩, XX.out.off hOW v1 (by decide), hm1.out, KK.out.off hOW hB', hBW⟩)
  rcases Classical.em (d.kind = 8) with hkd | h8
  · have n1 : (d.kind == 1) = false := by simp; omega
    have n2 : (d.kind == 2) = false := by simp; omega
    have n3 : (d.kind == 3) = false := by simp; omega
    have n4 : (d.kind == 4) = false := by simp; omega
    have n5 : (d.kind == 5) = false := by simp; omega
    have n6 : (d.kind == 6) = false := by simp; omega
    have n7 : (d.kind == 7) = false := by simp; omega
    have n9 : (d.kind == 9) = false := by simp; omega
    have y8 : (d.kind == 8) = true := by simp; omega
    have HST := hid (show Sto.step m.st d = Sto.scrub m.st from by unfold Sto.step; rw [if_neg (by omega), if_neg (by omega), if_neg (by omega), if_neg (by omega), if_pos (by omega)])
    have DD := hid (show Calls Try.prog 43 #[.pointer (some ⟨p, 0, none⟩)] wb (MutRes base p ((Sto.scrub m.st).1) ((Sto.scrub m.st).2) wb) from stscrub_call base p m K wb HS.out hk)
    clear hk hdB hd h
    replace hkd := hid hkd
    go_enter Try.func31, Try.ntmps31
    clear hwb
    go_wp2_with fail
    have hwb := HWB.out
    rw [← hwb]
    have hwB : w.heap.size < wb.heap.size := by rw [hwb]; simp
    obtain ⟨B, hB⟩ : ∃ B, B = w.heap.size := ⟨_, rfl⟩
    rw [← hB] at HV ⊢
    have hB' := Nat.le_of_eq hB.symm
    have hBb : base ≤ B := by omega
    replace hB := hid hB
    clear hwb k0
    go_at_call 43; refine (DD.out).mono ?_; rintro e w1 ⟨v, m', rfl, hv, X1, hm1, K1, B1⟩
    obtain ⟨ea, ec, aa, ac, rfl, hE, hA⟩ := hv
    have v1 := K1.block B _ 50 HV.out (by decide)
    have b1 := (HW.out.mono hbase).trans B1
    have XX := hid X1
    have KK := hid ((Kt.below HW.out).trans K1)
    have EE := hid hE
    have AA := hid hA
    replace hm1 := hid hm1
    clear X1 K1 B1 hE hA DD
    unfold ansVal
    obtain ⟨an, han⟩ : ∃ an, an = (Sto.scrub m.st).2 := ⟨_, rfl⟩
    rw [← han] at EE AA ⊢
    replace han := hid han
    have r0 : w1.cell? ⟨B, 0, none⟩ = some (.int .i64 0) := blk_cell v1
    have r1 : w1.cell? ⟨B, 1, none⟩ = some (.int .i64 0) := blk_cell v1
    have r2 : w1.cell? ⟨B, 2, none⟩ = some (.slice none 0 0) := blk_cell v1
    have r3 : w1.cell? ⟨B, 3, none⟩ = some (.int .i64 0) := blk_cell v1
    have r4 : w1.cell? ⟨B, 4, none⟩ = some (.slice none 0 0) := blk_cell v1
    have f0 : ∀ j, w1.frozen? ⟨B, j, none⟩ = false := fun j => blk_free v1
    go_wp2_with fail
    obtain ⟨W, hW, q, hBW, hOW, hown⟩ := set5_facts b1 hBb v1 (.int .i64 an.err) (.int .i64 an.n) (.slice ea an.evs.length ec) (.int .i64 an.view.upto) (.slice aa an.view.accs.length ac)
    rw [hW]
    have q0 := blk_cell (i := 0) q
    have q1 := blk_cell (i := 1) q
    have q2 := blk_cell (i := 2) q
    have q3 := blk_cell (i := 3) q
    have q4 := blk_cell (i := 4) q
    exact bodyPost_ret (v := ansVal an.err an.n (.slice ea an.evs.length ec) an.view.upto (.slice aa an.view.accs.length ac)) (by unfold ansVal; simp [results, Try.results31, go_sem, q0, q1, q2, q3, q4]) rfl (by
      show MutRes base p (Sto.step m.st d).1 (Sto.step m.st d).2 w _ _
      rw [HST.out]
      show MutRes base p ((Sto.scrub m.st).1) ((Sto.scrub m.st).2) w _ _
      rw [← han.out]
      exact ⟨_, m', rfl, ⟨ea, ec, aa, ac, rfl, ⟨hown EE.out.1 (by decide), EE.out.2⟩, ⟨hown AA.out.1 (by decide), AA.out.2⟩⟩, XX.out.off hOW v1 (by decide), hm1.out, KK.out.off hOW hB', hBW⟩)
  rcases Classical.em (d.kind = 9) with hkd | h9
  · have n1 : (d.kind == 1) = false := by simp; omega
    have n2 : (d.kind == 2) = false := by simp; omega
    have n3 : (d.kind == 3) = false := by simp; omega
    have n4 : (d.kind == 4) = false := by simp; omega
    have n5 : (d.kind == 5) = false := by simp; omega
    have n6 : (d.kind == 6) = false := by simp; omega
    have n7 : (d.kind == 7) = false := by simp; omega
    have n8 : (d.kind == 8) = false := by simp; omega
    have y9 : (d.kind == 9) = true := by simp; omega
    have HST := hid (show Sto.step m.st d = (m.st, Sto.anN (Sto.healthTo m.st.disks m.g)) from by unfold Sto.step; rw [if_neg (by omega), if_neg (by omega), if_neg (by omega), if_neg (by omega), if_neg (by omega), if_pos (by omega)]; rfl)
    have DD := hid (show Calls Try.prog 44 #[.pointer (some ⟨p, 0, none⟩)] wb (MutRes base p (m.st) (Sto.anN (Sto.healthTo m.st.disks m.g)) wb) from (sthealth_call base p m K wb HS.out hk).mono fun e w' hr => mut_read HS.out hr)
    clear hk hdB hd h
    replace hkd := hid hkd
    go_enter Try.func31, Try.ntmps31
    clear hwb
    go_wp2_with fail
    have hwb := HWB.out
    rw [← hwb]
    have hwB : w.heap.size < wb.heap.size := by rw [hwb]; simp
    obtain ⟨B, hB⟩ : ∃ B, B = w.heap.size := ⟨_, rfl⟩
    rw [← hB] at HV ⊢
    have hB' := Nat.le_of_eq hB.symm
    have hBb : base ≤ B := by omega
    replace hB := hid hB
    clear hwb k0
    go_at_call 44; refine (DD.out).mono ?_; rintro e w1 ⟨v, m', rfl, hv, X1, hm1, K1, B1⟩
    obtain ⟨ea, ec, aa, ac, rfl, hE, hA⟩ := hv
    have v1 := K1.block B _ 50 HV.out (by decide)
    have b1 := (HW.out.mono hbase).trans B1
    have XX := hid X1
    have KK := hid ((Kt.below HW.out).trans K1)
    have EE := hid hE
    have AA := hid hA
    replace hm1 := hid hm1
    clear X1 K1 B1 hE hA DD
    unfold ansVal
    obtain ⟨an, han⟩ : ∃ an, an = Sto.anN (Sto.healthTo m.st.disks m.g) := ⟨_, rfl⟩
    rw [← han] at EE AA ⊢
    replace han := hid han
    have r0 : w1.cell? ⟨B, 0, none⟩ = some (.int .i64 0) := blk_cell v1
    have r1 : w1.cell? ⟨B, 1, none⟩ = some (.int .i64 0) := blk_cell v1
    have r2 : w1.cell? ⟨B, 2, none⟩ = some (.slice none 0 0) := blk_cell v1
    have r3 : w1.cell? ⟨B, 3, none⟩ = some (.int .i64 0) := blk_cell v1
    have r4 : w1.cell? ⟨B, 4, none⟩ = some (.slice none 0 0) := blk_cell v1
    have f0 : ∀ j, w1.frozen? ⟨B, j, none⟩ = false := fun j => blk_free v1
    go_wp2_with fail
    obtain ⟨W, hW, q, hBW, hOW, hown⟩ := set5_facts b1 hBb v1 (.int .i64 an.err) (.int .i64 an.n) (.slice ea an.evs.length ec) (.int .i64 an.view.upto) (.slice aa an.view.accs.length ac)
    rw [hW]
    have q0 := blk_cell (i := 0) q
    have q1 := blk_cell (i := 1) q
    have q2 := blk_cell (i := 2) q
    have q3 := blk_cell (i := 3) q
    have q4 := blk_cell (i := 4) q
    exact bodyPost_ret (v := ansVal an.err an.n (.slice ea an.evs.length ec) an.view.upto (.slice aa an.view.accs.length ac)) (by unfold ansVal; simp [results, Try.results31, go_sem, q0, q1, q2, q3, q4]) rfl (by
      show MutRes base p (Sto.step m.st d).1 (Sto.step m.st d).2 w _ _
      rw [HST.out]
      show MutRes base p (m.st) (Sto.anN (Sto.healthTo m.st.disks m.g)) w _ _
      rw [← han.out]
      exact ⟨_, m', rfl, ⟨ea, ec, aa, ac, rfl, ⟨hown EE.out.1 (by decide), EE.out.2⟩, ⟨hown AA.out.1 (by decide), AA.out.2⟩⟩, XX.out.off hOW v1 (by decide), hm1.out, KK.out.off hOW hB', hBW⟩)
  have hkd : d.kind ≠ 1 := h1
  have n1 : (d.kind == 1) = false := by simp; omega
  have n2 : (d.kind == 2) = false := by simp; omega
  have n3 : (d.kind == 3) = false := by simp; omega
  have n4 : (d.kind == 4) = false := by simp; omega
  have n5 : (d.kind == 5) = false := by simp; omega
  have n6 : (d.kind == 6) = false := by simp; omega
  have n7 : (d.kind == 7) = false := by simp; omega
  have n8 : (d.kind == 8) = false := by simp; omega
  have n9 : (d.kind == 9) = false := by simp; omega
  have HST := hid (show Sto.step m.st d = (m.st, Sto.anE 1) from by unfold Sto.step; rw [if_neg (by omega), if_neg (by omega), if_neg (by omega), if_neg (by omega), if_neg (by omega), if_neg (by omega)])
  clear hk hdB hd h
  replace hkd := hid hkd
  clear hwb
  go_enter Try.func31, Try.ntmps31
  go_wp2_with fail
  have q := blk_new w (.cells #[.int .i64 1, .int .i64 0, .slice none 0 0, .int .i64 0, .slice none 0 0] 50)
  have q0 := blk_cell (i := 0) q
  have q1 := blk_cell (i := 1) q
  have q2 := blk_cell (i := 2) q
  have q3 := blk_cell (i := 3) q
  have q4 := blk_cell (i := 4) q
  have b1 := (Below.refl w.heap.size w).alloc (Nat.le_refl _) (.cells #[.int .i64 1, .int .i64 0, .slice none 0 0, .int .i64 0, .slice none 0 0] 50)
  refine bodyPost_ret (v := ansVal 1 0 (.slice none 0 0) 0 (.slice none 0 0)) (by unfold ansVal; simp [results, Try.results31, go_sem, q0, q1, q2, q3, q4]) rfl ⟨_, m, rfl, ?_, H0.out.alloc _, ?_, Kt.below b1, b1.mono hbase⟩
  · rw [HST.out]; exact AnO.err _ _ _
  · rw [HST.out]
end Go.Proofs.Ythhcdfjijagalaa
namespace Go.Proofs.Ythhcdfjijagalaa
open Go.RowKit
set_option linter.unusedVariables false
set_option linter.unusedSimpArgs false
set_option maxRecDepth 100000
set_option maxHeartbeats 2000000 in
theorem stWrong_call (d s b : Int) (w : World) : Calls Try.prog 30 #[.agg #[.int .i64 d, .int .i64 s, .int .i64 b]] w (Grew (.int .i64 (Sto.wrongS d s b)) w) := by
  have DC := hid (fun W => cWrong_call d s W)
  have HW := hid (show Sto.wrongS d s b = if Mat.wrongC d s ≠ 0 then Mat.wrongC d s else if b < 1 ∨ 10 < b then 3 else 0 from rfl)
  generalize Mat.wrongC d s = E at *
  by_cases hE : E = 0
  · subst hE
    replace HW := hid (HW.out.trans (if_neg (fun e => e rfl)))
    by_cases h1 : b < 1
    · replace HW := hid (HW.out.trans (if_pos (.inl h1)))
      rw [HW.out]
      go_enter Try.func30, Try.ntmps30
      go_wp2_with fail
      go_at_call 38; refine (DC.out _).mono ?_; rintro e w1 ⟨rfl, rfl⟩
      go_wp2_with fail
      go_ret
      exact ⟨rfl, (Below.refl _ _).alloc (Nat.le_refl _) _⟩
    · by_cases h2 : 10 < b
      · replace HW := hid (HW.out.trans (if_pos (.inr h2)))
        rw [HW.out]
        go_enter Try.func30, Try.ntmps30
        go_wp2_with fail
        go_at_call 38; refine (DC.out _).mono ?_; rintro e w1 ⟨rfl, rfl⟩
        go_wp2_with fail
        go_ret
        exact ⟨rfl, (Below.refl _ _).alloc (Nat.le_refl _) _⟩
      · replace HW := hid (HW.out.trans (if_neg (by omega)))
        rw [HW.out]
        go_enter Try.func30, Try.ntmps30
        go_wp2_with fail
        go_at_call 38; refine (DC.out _).mono ?_; rintro e w1 ⟨rfl, rfl⟩
        go_wp2_with fail
        go_ret
        exact ⟨rfl, (Below.refl _ _).alloc (Nat.le_refl _) _⟩
  · replace HW := hid (HW.out.trans (if_pos hE))
    rw [HW.out]
    have t0 : (E != 0) = true := bne_iff_ne.2 hE
    replace hE := hid hE
    go_enter Try.func30, Try.ntmps30
    go_wp2_with fail
    go_at_call 38; refine (DC.out _).mono ?_; rintro e w1 ⟨rfl, rfl⟩
    go_wp2_with fail
    go_ret
    exact ⟨rfl, (Below.refl _ _).alloc (Nat.le_refl _) _⟩
end Go.Proofs.Ythhcdfjijagalaa
