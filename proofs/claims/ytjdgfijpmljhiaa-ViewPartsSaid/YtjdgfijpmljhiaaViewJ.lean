/- Walk: ViewRight. -/
import Derived.Test.YtjdgfijpmljhiaaViewI
import Derived.Test.YtjdgfijpmljhiaaVwLaw
namespace Go.Proofs.Ytjdgfijpmljhiaa
open Go.RowKit
set_option linter.unusedVariables false
theorem As.mono {w W W' : World} {a : Option Addr} {n cap : Nat} {l : List Vw.Acc} (h : As w a n cap l) (h1 : Below w.heap.size w W) (h2 : Below W.heap.size W W') : As W' a n cap l := (h.below h1).below h2

set_option maxRecDepth 100000 in
set_option maxHeartbeats 2000000 in
theorem ViewRight_walk (u : Int) (a : Option Addr) (n cap : Nat) (l : List Vw.Acc) (ea : Option Addr) (en ec : Nat) (es : List Evt.Ev) (w : World) (h : As w a n cap l) (hes : Es w ea en ec es) :
    Calls Try.prog 5 #[.agg #[.int .i64 u, .slice a n cap], .slice ea en ec] w (Grew (.bool true) w) := by
  have hmax := h.sl.max
  have hle := h.sl.le
  unfold maxLen at hmax
  have HN := hid h.cnt
  have hemax := hes.sl.max
  have hele := hes.sl.le
  unfold maxLen at hemax
  have HEN := hid hes.n
  have D := hid (fun W (hW : As W a n cap l) (hE : Es W ea en ec es) => vFold_call u a n cap l ea en ec es W hW hE)
  have hlaw : (Vw.fold ⟨u, l⟩ es).err = 0 → (∀ x ∈ l, 0 ≤ x.sum) → (∀ x ∈ (Vw.fold ⟨u, l⟩ es).v.accs, 0 ≤ x.sum) ∧ Vw.Good (Vw.fold ⟨u, l⟩ es).v ∧ (Vw.fold ⟨u, l⟩ es).v.upto = u + es.length := by
    intro h0 hs
    obtain ⟨hg, he⟩ := Vw.fold_ok h0
    rw [he] at h0 ⊢
    have := Vw.fo_good es ⟨u, l⟩ 0 hg h0
    exact ⟨Vw.fo_sum es ⟨u, l⟩ 0 hg h0 hs, this.1, this.2⟩
  generalize Vw.fold ⟨u, l⟩ es = R at *
  obtain ⟨⟨u2, l2⟩, er, at2⟩ := R
  unfold viVal FAns viVal at D
  simp only at D hlaw
  replace hlaw := hid hlaw
  go_enter Try.func5, Try.ntmps5
  go_wp2_with fail
  go_at_call 23; refine (alive7_call _).mono ?_; rintro e w1 ⟨rfl, b1⟩
  have hb1 : Below w.heap.size w w1 := bnext ((Below.refl _ _).alloc (Nat.le_refl _) _) b1
  have v1 := blk_below (blk_new w (.cells #[.int .i64 u, .slice a n cap] 24)) b1
  clear b1
  have r0 : w1.cell? ⟨w.heap.size, 0, none⟩ = some (.int .i64 u) := blk_cell v1
  have r1 : w1.cell? ⟨w.heap.size, 1, none⟩ = some (.slice a n cap) := blk_cell v1
  go_wp2_with fail
  go_at_call 21; refine (D.out _ (h.below hb1) (hes.below hb1)).mono ?_; rintro e w2 ⟨a2, n2, c2, rfl, hA2, b2⟩
  replace v1 := blk_below v1 b2
  replace hb1 := bnext hb1 b2
  clear b2 r0 r1
  have s1 := blk_lt v1
  by_cases her : er = 0
  · subst her
    have r0 : w2.cell? ⟨w.heap.size, 0, none⟩ = some (.int .i64 u) := blk_cell v1
    have r1 : w2.cell? ⟨w.heap.size, 1, none⟩ = some (.slice a n cap) := blk_cell v1
    go_wp2_with fail
    obtain ⟨V, hV, x1, x2, hb2, hb3⟩ := two_new w w2 (.cells #[.int .i64 u2, .slice a2 n2 c2] 24) (.cells #[.int .i64 0, .int .i64 at2] 28) hb1
    rw [hV]
    replace v1 := blk_below v1 hb3
    have h3 := h.below hb2
    have hA3 := hA2.below hb3
    clear hV hb3 hb1 r0 r1 hA2
    go_loopg [25] n (fun g i wr => ∃ k : Nat, g = n - k ∧ k ≤ n ∧ i = .int .i64 (k : Int) ∧ Below V.heap.size V wr ∧ Hid (∀ j (hj : j < l.length), j < k → 0 ≤ l[j].sum))
    case atStart => exact ⟨0, rfl, by omega, rfl, Below.refl _ _, hid (fun j _ hj => absurd hj (by omega))⟩
    case round =>
      obtain ⟨k, rfl, hk, rfl, hB, HS⟩ := hrel
      by_cases hlt : k < n
      · have hkl : k < l.length := by rw [HN.out]; exact hlt
        obtain ⟨b, off, rfl, _⟩ := h3.sl.addr (by omega)
        obtain ⟨q0, q1, q2, q3⟩ := (h3.below hB).at k hkl
        have i0 : (0 : Int) ≤ (k : Int) := by omega
        have i1 : (k : Int) < (n : Int) := by omega
        by_cases hs : l[k].sum < 0
        · go_wp2_with fail
          go_ret
          refine ⟨rfl, ?_⟩
          have := bnext hb2 hB
          exact this.alloc this.size _
        · have HS' := hid (fun j (hj : j < l.length) (hjk : j < k + 1) => by
            rcases Nat.lt_or_ge j k with h1 | h1
            · exact HS.out j hj h1
            · obtain rfl : j = k := by omega
              exact Int.not_lt.1 hs)
          go_wp2_with fail
          go_roundg (n - (k + 1))
          case measure => omega
          case rel => exact ⟨k + 1, rfl, by omega, by go_num, hB.alloc hB.size _, HS'⟩
      · obtain rfl : k = n := by omega
        have hsum : ∀ x ∈ l, 0 ≤ x.sum := by
          intro x hx
          obtain ⟨j, hj, rfl⟩ := List.getElem_of_mem hx
          exact HS.out j hj (by rw [HN.out] at hj; exact hj)
        rename World => W5
        obtain ⟨L1, L2, L3⟩ := hlaw.out (by first | rfl | trivial) hsum
        replace L1 := hid L1
        have hu1 := L2.lo
        have hu2 := L2.hi
        simp only at hu1 hu2
        replace L2 := hid L2
        rw [HEN.out] at L3
        replace L3 := hid L3
        have hmax2 := hA3.sl.max
        have hle2 := hA3.sl.le
        unfold maxLen at hmax2
        have HN2 := hid hA3.cnt
        replace hA3 := hA3.below hB
        replace x1 := blk_below x1 hB
        replace v1 := blk_below v1 hB
        replace hb2 := bnext hb2 hB
        clear HS hB hsum x2 h3
        have r0 : W5.cell? ⟨w2.heap.size, 0, none⟩ = some (.int .i64 u2) := blk_cell x1
        have r1 : W5.cell? ⟨w2.heap.size, 1, none⟩ = some (.slice a2 n2 c2) := blk_cell x1
        go_wp2_with fail
        go_loopg [36] n2 (fun g i wx => ∃ k : Nat, g = n2 - k ∧ k ≤ n2 ∧ i = .int .i64 (k : Int) ∧ Below W5.heap.size W5 wx)
        case atStart => exact ⟨0, rfl, by omega, rfl, Below.refl _ _⟩
        case round =>
          obtain ⟨k, rfl, hk2, rfl, hB⟩ := hrel
          by_cases hlt2 : k < n2
          · have hkl : k < l2.length := by rw [HN2.out]; exact hlt2
            obtain ⟨b2, off2, rfl, _⟩ := hA3.sl.addr (by omega)
            obtain ⟨q0, q1, q2, q3⟩ := (hA3.below hB).at k hkl
            have i0 : (0 : Int) ≤ (k : Int) := by omega
            have i1 : (k : Int) < (n2 : Int) := by omega
            have hs := L1.out _ (List.getElem_mem hkl)
            generalize l2[k] = z at *
            have hs' : ¬ z.sum < 0 := by omega
            replace hs := hid hs
            go_wp2_with fail
            go_roundg (n2 - (k + 1))
            case measure => omega
            case rel => exact ⟨k + 1, rfl, by omega, by go_num, hB.alloc hB.size _⟩
          · obtain rfl : k = n2 := by omega
            have r0 : w.heap.size < W5.heap.size := blk_lt v1
            have G := hid (vWrong_call u2 a2 k c2 l2 wr (hA3.below hB))
            have hwr : (Vw.wrongV ⟨u2, l2⟩).1 = 0 := (Vw.wrongV_good _).2 L2.out
            obtain ⟨E, hE⟩ : ∃ E, E = Vw.wrongV ⟨u2, l2⟩ := ⟨_, rfl⟩
            rw [← hE] at hwr G
            clear hE
            obtain ⟨E1, E2⟩ := E
            obtain rfl : E1 = 0 := hwr
            unfold viVal fVal' at G
            simp only at G
            replace x1 := blk_below x1 hB
            replace v1 := blk_below v1 hB
            have p0 : wr.cell? ⟨w2.heap.size, 0, none⟩ = some (.int .i64 u2) := blk_cell x1
            have p1 : wr.cell? ⟨w2.heap.size, 1, none⟩ = some (.slice a2 k c2) := blk_cell x1
            have f0 := fault_field0
            go_wp2_with fail
            go_at_call 11; refine G.out.mono ?_; rintro e w6 ⟨rfl, b6⟩
            have p0 : w6.cell? ⟨w2.heap.size, 0, none⟩ = some (.int .i64 u2) := blk_cell (blk_below x1 b6)
            have p2 : w6.cell? ⟨w.heap.size, 0, none⟩ = some (.int .i64 u) := blk_cell (blk_below v1 b6)
            have p3 : IntKind.i64.wrap (u + (en : Int)) = u2 := by rw [← L3.out]; exact IntWalk.i64_in _ (by omega)
            go_wp2_with fail
            go_ret
            exact ⟨rfl, bnext (bnext hb2 hB) b6⟩
  · have t0 : (er != 0) = true := bne_iff_ne.2 her
    replace her := hid her
    go_wp2_with fail
    go_ret
    refine ⟨rfl, ?_⟩
    have := hb1.alloc hb1.size (.cells #[.int .i64 u2, .slice a2 n2 c2] 24)
    exact this.alloc this.size _

end Go.Proofs.Ytjdgfijpmljhiaa
