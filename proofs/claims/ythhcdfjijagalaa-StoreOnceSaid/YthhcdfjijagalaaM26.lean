/- Joined, and what is not used struck: ViewG. -/
import Derived.Test.YthhcdfjijagalaaM15
namespace Go.Proofs.Ythhcdfjijagalaa
open Go.RowKit
set_option linter.unusedVariables false
/-- .. and the accounts lie in a row of their own that is new -/
def FAnsO (r : Vw.Fo) (w : World) (e : Ending) (w' : World) : Prop := ∃ a n cap, e = .returned (.tuple #[viVal r.v.upto a n cap, .agg #[.int .i64 r.err, .int .i64 r.at_]]) ∧ As w' a n cap r.v.accs ∧ Below w.heap.size w w' ∧ w'.ownsRow w.heap.size 65 4 (.slice a n cap) n (acCells r.v.accs)
theorem fans_badO {w w' : World} {E F : Int} (hb : Below w.heap.size w w') : FAnsO ⟨Vw.none', E, F⟩ w (.returned (.tuple #[.agg #[.int .i64 0, .slice none 0 0], .agg #[.int .i64 E, .int .i64 F]])) w' := ⟨none, 0, 0, rfl, As.nil _, hb, World.ownsRow_nil _ _ _ _⟩
theorem fo_step {v : Vw.Vi} {l : List Evt.Ev} {k : Nat} (h : k < l.length) : Vw.fo v (l.drop k) k = if (Vw.apply v l[k]).err ≠ 0 then ⟨Vw.none', (Vw.apply v l[k]).err, (k : Int)⟩ else Vw.fo (Vw.apply v l[k]).v (l.drop (k + 1)) (k + 1) := by
  rw [List.drop_eq_getElem_cons h, Vw.fo_cons]
/-- two results in memory -/
theorem res_four {w w1 : World} {b c : Nat} {x y x' y' : Value} {t t' : TypeId} (hb : Below w.heap.size w w1) (hle : w.heap.size ≤ b) (hlc : w.heap.size ≤ c) (hne : b ≠ c) (h : w1.heap[b]? = some (.cells #[x, y] t (0, 0))) (h' : w1.heap[c]? = some (.cells #[x', y'] t' (0, 0))) (v0 v1 v2 v3 : Value) :
    ∃ W, (((w1.setCell ⟨b, 0, none⟩ v0).setCell ⟨b, 1, none⟩ v1).setCell ⟨c, 0, none⟩ v2).setCell ⟨c, 1, none⟩ v3 = W ∧ W.heap[b]? = some (.cells #[v0, v1] t (0, 0)) ∧ W.heap[c]? = some (.cells #[v2, v3] t' (0, 0)) ∧ Below w.heap.size w W := by
  refine ⟨_, rfl, blk_keep (blk_keep (res_blk h v0 v1) hne _) hne _, res_blk (blk_keep (blk_keep h' hne.symm _) hne.symm _) v2 v3, ?_⟩
  exact (((hb.setCell (p := ⟨b, 0, none⟩) hle v0).setCell (p := ⟨b, 1, none⟩) hle v1).setCell (p := ⟨c, 0, none⟩) hlc v2).setCell (p := ⟨c, 1, none⟩) hlc v3
/-- accounts lie in no block of two cells -/
theorem As.setTwo {w : World} {a : Option Addr} {n cap b i : Nat} {l : List Vw.Acc} {x y : Value} {t : TypeId} {fr : Nat × Nat} (h : As w a n cap l) (hb : w.heap[b]? = some (.cells #[x, y] t fr)) (v : Value) : As (w.setCell ⟨b, i, none⟩ v) a n cap l := by
  refine ⟨⟨h.sl.le, h.sl.max, h.sl.len, h.sl.nil, fun hn => ?_⟩, h.ok⟩
  obtain ⟨b', off, rfl, hc⟩ := h.sl.addr hn
  have hl := h.cnt
  have hne : b' ≠ b := by
    rintro rfl
    obtain ⟨_, _, _, q⟩ := h.at 0 (by omega)
    rw [blk_cell hb] at q
    rw [Array.getElem?_eq_none (by simp)] at q
    cases q
  exact ⟨b', off, rfl, fun j u hj => (cell_other_block _ (fun e => hne e.symm)).trans (hc j u hj)⟩
set_option maxHeartbeats 2000000 in
theorem vFold_a (u : Int) (a : Option Addr) (n cap : Nat) (l : List Vw.Acc) (ea : Option Addr) (en ec : Nat) (w : World) (h : As w a n cap l) (h1 : (Vw.wrongV ⟨u, l⟩).1 ≠ 0) :
    Calls Try.prog 27 #[viVal u a n cap, .slice ea en ec] w (FAnsO ⟨Vw.none', (Vw.wrongV ⟨u, l⟩).1, 0⟩ w) := by
  have D := hid (fun W (hW : As W a n cap l) => vWrong_call u a n cap l W hW)
  obtain ⟨E, hE⟩ : ∃ E, E = Vw.wrongV ⟨u, l⟩ := ⟨_, rfl⟩
  rw [← hE] at h1 ⊢
  rw [← hE] at D
  clear hE
  obtain ⟨E1, E2⟩ := E
  unfold viVal
  unfold viVal fVal' at D
  simp only at h1 D ⊢
  have t0 : (E1 != 0) = true := bne_iff_ne.2 h1
  replace h1 := hid h1
  go_enter Try.func27, Try.ntmps27
  go_wp2_with fail
  go_at_call 36; refine (D.out _ (((h.alloc _).alloc _).alloc _)).mono ?_; rintro e w1 ⟨rfl, b1⟩
  obtain ⟨v1, v2, v3, hs1, hb⟩ := three_blk w _ _ _ w1 b1
  have hs2 : w.heap.size + 1 < w1.heap.size := by omega
  obtain ⟨z1, z2, z3, z4⟩ : w.heap.size + 1 + 1 ≠ w1.heap.size ∧ w1.heap.size ≠ w.heap.size + 1 + 1 ∧ w.heap.size + 1 ≠ w1.heap.size ∧ w1.heap.size ≠ w.heap.size + 1 := by omega
  have r0 : w1.cell? ⟨w.heap.size + 1, 0, none⟩ = some (.int .i64 0) := blk_cell v2
  have r1 : w1.cell? ⟨w.heap.size + 1, 1, none⟩ = some (.slice none 0 0) := blk_cell v2
  have f0 : ∀ j, w1.frozen? ⟨w.heap.size + 1, j, none⟩ = false := fun j => blk_free v2
  have r2 : w1.cell? ⟨w.heap.size + 1 + 1, 0, none⟩ = some (.int .i64 0) := blk_cell v3
  have r3 : w1.cell? ⟨w.heap.size + 1 + 1, 1, none⟩ = some (.int .i64 0) := blk_cell v3
  have f1 : ∀ j, w1.frozen? ⟨w.heap.size + 1 + 1, j, none⟩ = false := fun j => blk_free v3
  clear b1
  go_wp2_with fail
  go_region
  all_goals go_wp2_with fail
  obtain ⟨W, hW, qb, qc, qd⟩ := res_four hb (by omega) (by omega) (by omega) v2 v3 (.int .i64 0) (.slice none 0 0) (.int .i64 E1) (.int .i64 0)
  rw [hW]
  have p0 := blk_cell (i := 0) (blk_old (o' := .cells #[.int .i64 E1, .int .i64 E2] 69) qb)
  have p1 := blk_cell (i := 1) (blk_old (o' := .cells #[.int .i64 E1, .int .i64 E2] 69) qb)
  have p2 := blk_cell (i := 0) (blk_old (o' := .cells #[.int .i64 E1, .int .i64 E2] 69) qc)
  have p3 := blk_cell (i := 1) (blk_old (o' := .cells #[.int .i64 E1, .int .i64 E2] 69) qc)
  exact bodyPost_ret (v := .tuple #[.agg #[.int .i64 0, .slice none 0 0], .agg #[.int .i64 E1, .int .i64 0]]) (by simp [results, Try.results27, go_sem, p0, p1, p2, p3]) rfl (fans_badO (below_drewN (qd.alloc qd.size _) 1))
set_option maxHeartbeats 2000000 in
theorem vFold_b (u : Int) (a : Option Addr) (n cap : Nat) (l : List Vw.Acc) (ea : Option Addr) (en ec : Nat) (es : List Evt.Ev) (w : World) (h : As w a n cap l) (hes : Es w ea en ec es) (h1 : (Vw.wrongV ⟨u, l⟩).1 = 0) :
    Calls Try.prog 27 #[viVal u a n cap, .slice ea en ec] w (FAnsO (Vw.fo ⟨u, l⟩ es 0) w) := by
  have D := hid (fun W (hW : As W a n cap l) => vWrong_call u a n cap l W hW)
  have hG := (Vw.wrongV_good ⟨u, l⟩).1 h1
  have hn : n ≤ 150 := by
    have h2 := hG.len
    have h3 := hG.hi
    have := h.cnt
    simp only at h2 h3
    omega
  have hmax := hes.sl.max
  have hle := hes.sl.le
  unfold maxLen at hmax
  have HN := hid hes.n
  replace hG := hid hG
  obtain ⟨E, hE⟩ : ∃ E, E = Vw.wrongV ⟨u, l⟩ := ⟨_, rfl⟩
  rw [← hE] at h1 D
  clear hE
  obtain ⟨E1, E2⟩ := E
  have h1 : E1 = 0 := h1
  subst h1
  unfold viVal
  unfold viVal fVal' at D
  simp only at D ⊢
  go_enter Try.func27, Try.ntmps27
  go_wp2_with fail
  go_at_call 36; refine (D.out _ (((h.alloc _).alloc _).alloc _)).mono ?_; rintro e w1 ⟨rfl, b1⟩
  obtain ⟨v1, v2, v3, hs1, hb⟩ := three_blk w _ _ _ w1 b1
  clear b1
  have hs2 : w.heap.size < w1.heap.size := by omega
  have r0 : (w1.alloc (.cells #[.int .i64 0, .int .i64 E2] 69)).cell? ⟨w.heap.size, 0, none⟩ = some (.int .i64 u) := blk_cell (blk_old v1)
  have r1 : (w1.alloc (.cells #[.int .i64 0, .int .i64 E2] 69)).cell? ⟨w.heap.size, 1, none⟩ = some (.slice a n cap) := blk_cell (blk_old v1)
  go_wp2_with fail
  go_at_call 32; refine (cloneAcc_call a n cap l _ ((h.below hb).alloc _) (by omega)).mono ?_; rintro e w2 ⟨cv, rfl, b2, o2⟩
  obtain ⟨ca, cc, rfl, hcs⟩ := own_sl o2
  have hca : As w2 ca n cc l := ⟨hcs, h.ok⟩
  replace v1 := call_blk v1 b2
  replace v2 := call_blk v2 b2
  replace v3 := call_blk v3 b2
  have hne1 := own_blk_ne o2 v1 (by decide)
  replace hb := call_below hb b2
  clear b2 r0 r1
  have r0 : w2.cell? ⟨w.heap.size, 1, none⟩ = some (.slice a n cap) := blk_cell v1
  have f0 : w2.frozen? ⟨w.heap.size, 1, none⟩ = false := blk_free v1
  go_wp2_with fail
  have v1' : (w2.setCell ⟨w.heap.size, 1, none⟩ (.slice ca n cc)).heap[w.heap.size]? = some (.cells #[.int .i64 u, .slice ca n cc] 42 (0, 0)) := blk_set (i := 1) v1 _
  have v2' : (w2.setCell ⟨w.heap.size, 1, none⟩ (.slice ca n cc)).heap[w.heap.size + 1]? = some (.cells #[.int .i64 0, .slice none 0 0] 42 (0, 0)) := blk_keep v2 (by omega) _
  have v3' : (w2.setCell ⟨w.heap.size, 1, none⟩ (.slice ca n cc)).heap[w.heap.size + 1 + 1]? = some (.cells #[.int .i64 0, .int .i64 0] 69 (0, 0)) := blk_keep v3 (by omega) _
  have hcO : (w2.setCell ⟨w.heap.size, 1, none⟩ (.slice ca n cc)).ownsRow w.heap.size 65 4 (.slice ca n cc) n (acCells l) := own_mono (ownsRow_setCell_other (a := ⟨w.heap.size, 1, none⟩) o2 hne1 (.slice ca n cc)) (by simp only [World.size_alloc]; omega)
  have hca' : As (w2.setCell ⟨w.heap.size, 1, none⟩ (.slice ca n cc)) ca n cc l := by
    have := ownsRow_setCell_other (a := ⟨w.heap.size, 1, none⟩) o2 hne1 (.slice ca n cc)
    obtain ⟨a', cap', e, hs⟩ := own_sl this
    cases e
    exact ⟨hs, h.ok⟩
  have hbb : Below w.heap.size w (w2.setCell ⟨w.heap.size, 1, none⟩ (.slice ca n cc)) := hb.setCell (Nat.le_refl _) _
  go_loopg [26] en (fun g i wr => ∃ (k : Nat) (u' : Int) (a' : Option Addr) (n' c' : Nat) (l' : List Vw.Acc), g = en - k ∧ k ≤ en ∧ i = .int .i64 (k : Int) ∧ wr.heap[w.heap.size]? = some (.cells #[.int .i64 u', .slice a' n' c'] 42 (0, 0)) ∧ wr.heap[w.heap.size + 1]? = some (.cells #[.int .i64 0, .slice none 0 0] 42 (0, 0)) ∧ wr.heap[w.heap.size + 1 + 1]? = some (.cells #[.int .i64 0, .int .i64 0] 69 (0, 0)) ∧ As wr a' n' c' l' ∧ Below w.heap.size w wr ∧ wr.ownsRow w.heap.size 65 4 (.slice a' n' c') n' (acCells l') ∧ Hid (Vw.fo ⟨u, l⟩ es 0 = Vw.fo ⟨u', l'⟩ (es.drop k) k))
  case atStart => exact ⟨0, u, ca, n, cc, l, rfl, by omega, rfl, v1', v2', v3', hca', hbb, hcO, hid rfl⟩
  case round =>
    obtain ⟨k, u', a', n', c', l', rfl, hk, rfl, x1, x2, x3, hA, hbw, hO, HF⟩ := hrel
    clear v1 v2 v3 v1' v2' v3' hca hca' hcO hbb hcs o2 r0 f0
    by_cases hlt : k < en
    · have hkl : k < es.length := by rw [HN.out]; exact hlt
      obtain ⟨eb, eoff, rfl, _⟩ := hes.sl.addr (by omega)
      obtain ⟨q0, q1, q2⟩ := (hes.below hbw).at k hkl
      have hok := hes.ok es[k] (List.getElem_mem _)
      have HS := hid (fo_step (v := ⟨u', l'⟩) hkl)
      have D8 := hid (fun W (hW : As W a' n' c' l') => vApply_callO u' a' n' c' l' es[k] W hW hok)
      obtain ⟨R, hR⟩ : ∃ R, R = Vw.apply ⟨u', l'⟩ es[k] := ⟨_, rfl⟩
      rw [← hR] at D8 HS
      clear hR
      generalize es[k] = ev at *
      obtain ⟨⟨u2, l2⟩, er⟩ := R
      obtain ⟨s, kk, m⟩ := ev
      unfold viVal evVal at D8
      simp only at q0 q1 q2 D8
      have i0 : (0 : Int) ≤ (k : Int) := by omega
      have i1 : (k : Int) < (en : Int) := by omega
      have r0 : (wr.alloc (.cells #[.string s, .int .i64 kk, .int .i64 m] 32)).cell? ⟨w.heap.size, 0, none⟩ = some (.int .i64 u') := blk_cell (blk_old x1)
      have r1 : (wr.alloc (.cells #[.string s, .int .i64 kk, .int .i64 m] 32)).cell? ⟨w.heap.size, 1, none⟩ = some (.slice a' n' c') := blk_cell (blk_old x1)
      go_wp2_with fail
      go_at_call 37; refine (D8.out _ (hA.alloc _)).mono ?_; rintro e w3 ⟨a2, n2, c2, rfl, hA2, b3, hO2⟩
      simp only at hA2 hO2
      replace hO2 := own_mono hO2 (show w.heap.size ≤ _ by have := hbw.size; simp only [World.size_alloc]; omega)
      unfold viVal
      simp only
      replace x1 := call_blk x1 b3
      replace x2 := call_blk x2 b3
      replace x3 := call_blk x3 b3
      replace hbw := call_below hbw b3
      clear b3 r0 r1 q0 q1 q2
      have s3 := blk_lt x3
      have s2 : w.heap.size + 1 < w3.heap.size := by omega
      have s1 : w.heap.size < w3.heap.size := by omega
      by_cases her : er = 0
      · subst her
        have HS := hid (HS.out.trans (if_neg (fun k => k rfl)))
        have p0 : w3.cell? ⟨w.heap.size, 0, none⟩ = some (.int .i64 u') := blk_cell x1
        have p1 : w3.cell? ⟨w.heap.size, 1, none⟩ = some (.slice a' n' c') := blk_cell x1
        have p2 : ∀ j, w3.frozen? ⟨w.heap.size, j, none⟩ = false := fun j => blk_free x1
        have p3 : w.heap.size ≠ w3.heap.size := by omega
        have p4 : w3.heap.size ≠ w.heap.size := by omega
        go_wp2_with fail
        go_roundg (en - (k + 1))
        case measure => omega
        case rel =>
          refine ⟨k + 1, u2, a2, n2, c2, l2, rfl, by omega, by go_num, blk_old (res_blk x1 _ _), blk_old (blk_keep (blk_keep x2 (by omega) _) (by omega) _), blk_old (blk_keep (blk_keep x3 (by omega) _) (by omega) _), ((hA2.setTwo x1 _).setTwo (blk_set (i := 0) x1 _) _).alloc _, ?_, own_below (ownsRow_setCell_other (a := ⟨w.heap.size, 1, none⟩) (ownsRow_setCell_other (a := ⟨w.heap.size, 0, none⟩) hO2 (own_blk_ne hO2 x1 (by decide)) _) (own_blk_ne hO2 x1 (by decide)) _) ((Below.refl _ _).alloc (Nat.le_refl _) _), hid (HF.out.trans HS.out)⟩
          have := (hbw.setCell (p := ⟨w.heap.size, 0, none⟩) (Nat.le_refl _) (.int .i64 u2)).setCell (p := ⟨w.heap.size, 1, none⟩) (Nat.le_refl _) (.slice a2 n2 c2)
          exact this.alloc this.size _
      · have HR := hid (HF.out.trans (HS.out.trans (if_pos her)))
        have t0 : (er != 0) = true := bne_iff_ne.2 her
        replace her := hid her
        have p0 : w3.cell? ⟨w.heap.size + 1, 0, none⟩ = some (.int .i64 0) := blk_cell x2
        have p1 : w3.cell? ⟨w.heap.size + 1, 1, none⟩ = some (.slice none 0 0) := blk_cell x2
        have p2 : ∀ j, w3.frozen? ⟨w.heap.size + 1, j, none⟩ = false := fun j => blk_free x2
        have p3 : w3.cell? ⟨w.heap.size + 1 + 1, 0, none⟩ = some (.int .i64 0) := blk_cell x3
        have p4 : w3.cell? ⟨w.heap.size + 1 + 1, 1, none⟩ = some (.int .i64 0) := blk_cell x3
        have p5 : ∀ j, w3.frozen? ⟨w.heap.size + 1 + 1, j, none⟩ = false := fun j => blk_free x3
        obtain ⟨z1, z2, z3, z4⟩ : w.heap.size + 1 + 1 ≠ w3.heap.size ∧ w3.heap.size ≠ w.heap.size + 1 + 1 ∧ w.heap.size + 1 ≠ w3.heap.size ∧ w3.heap.size ≠ w.heap.size + 1 := by omega
        go_wp2_with fail
        obtain ⟨W, hW, qb, qc, qd⟩ := res_four hbw (by omega) (by omega) (by omega) x2 x3 (.int .i64 0) (.slice none 0 0) (.int .i64 er) (.int .i64 (k : Int))
        rw [hW]
        have g0 := blk_cell (i := 0) (blk_old (o' := .cells #[.int .i64 u2, .slice a2 n2 c2] 42) qb)
        have g1 := blk_cell (i := 1) (blk_old (o' := .cells #[.int .i64 u2, .slice a2 n2 c2] 42) qb)
        have g2 := blk_cell (i := 0) (blk_old (o' := .cells #[.int .i64 u2, .slice a2 n2 c2] 42) qc)
        have g3 := blk_cell (i := 1) (blk_old (o' := .cells #[.int .i64 u2, .slice a2 n2 c2] 42) qc)
        rw [HR.out]
        exact bodyPost_ret (v := .tuple #[.agg #[.int .i64 0, .slice none 0 0], .agg #[.int .i64 er, .int .i64 (k : Int)]]) (by simp [results, Try.results27, go_sem, g0, g1, g2, g3]) rfl (fans_badO (qd.alloc qd.size _))
    · obtain rfl : k = en := by omega
      have p0 : wr.cell? ⟨w.heap.size, 0, none⟩ = some (.int .i64 u') := blk_cell x1
      have p1 : wr.cell? ⟨w.heap.size, 1, none⟩ = some (.slice a' n' c') := blk_cell x1
      have r0 : wr.cell? ⟨w.heap.size + 1, 0, none⟩ = some (.int .i64 0) := blk_cell x2
      have r1 : wr.cell? ⟨w.heap.size + 1, 1, none⟩ = some (.slice none 0 0) := blk_cell x2
      have r2 : ∀ j, wr.frozen? ⟨w.heap.size + 1, j, none⟩ = false := fun j => blk_free x2
      have r3 : wr.cell? ⟨w.heap.size + 1 + 1, 0, none⟩ = some (.int .i64 0) := blk_cell x3
      have r4 : wr.cell? ⟨w.heap.size + 1 + 1, 1, none⟩ = some (.int .i64 0) := blk_cell x3
      have r5 : ∀ j, wr.frozen? ⟨w.heap.size + 1 + 1, j, none⟩ = false := fun j => blk_free x3
      have HR := hid (HF.out.trans (show Vw.fo ⟨u', l'⟩ (es.drop k) k = ⟨⟨u', l'⟩, 0, 0⟩ by rw [List.drop_of_length_le (by rw [HN.out]; exact Nat.le_refl _)]; rfl))
      go_wp2_with fail
      have hA4 := (((hA.setTwo (i := 0) x2 (.int .i64 u')).setTwo (i := 1) (blk_set (i := 0) x2 _) (.slice a' n' c')).setTwo (i := 0) (blk_keep (blk_keep x3 (b := w.heap.size + 1 + 1) (by omega) _) (by omega) _) (.int .i64 0)).setTwo (i := 1) (blk_set (i := 0) (blk_keep (blk_keep x3 (b := w.heap.size + 1 + 1) (by omega) _) (by omega) _) _) (.int .i64 0)
      have hO4 := ownsRow_setCell_other (a := ⟨w.heap.size + 1 + 1, 1, none⟩) (ownsRow_setCell_other (a := ⟨w.heap.size + 1 + 1, 0, none⟩) (ownsRow_setCell_other (a := ⟨w.heap.size + 1, 1, none⟩) (ownsRow_setCell_other (a := ⟨w.heap.size + 1, 0, none⟩) hO (own_blk_ne hO x2 (by decide)) (.int .i64 u')) (own_blk_ne hO x2 (by decide)) (.slice a' n' c')) (own_blk_ne hO x3 (by decide)) (.int .i64 0)) (own_blk_ne hO x3 (by decide)) (.int .i64 0)
      obtain ⟨W, hW, qb, qc, qd⟩ := res_four hbw (by omega) (by omega) (by omega) x2 x3 (.int .i64 u') (.slice a' n' c') (.int .i64 0) (.int .i64 0)
      rw [hW] at hA4 hO4 ⊢
      have g0 := blk_cell (i := 0) qb
      have g1 := blk_cell (i := 1) qb
      have g2 := blk_cell (i := 0) qc
      have g3 := blk_cell (i := 1) qc
      rw [HR.out]
      exact bodyPost_ret (v := .tuple #[.agg #[.int .i64 u', .slice a' n' c'], .agg #[.int .i64 0, .int .i64 0]]) (by simp [results, Try.results27, go_sem, g0, g1, g2, g3]) rfl ⟨_, _, _, rfl, hA4, qd, hO4⟩
theorem vFold_callO (u : Int) (a : Option Addr) (n cap : Nat) (l : List Vw.Acc) (ea : Option Addr) (en ec : Nat) (es : List Evt.Ev) (w : World) (h : As w a n cap l) (hes : Es w ea en ec es) :
    Calls Try.prog 27 #[viVal u a n cap, .slice ea en ec] w (FAnsO (Vw.fold ⟨u, l⟩ es) w) := by
  unfold Vw.fold
  by_cases h1 : (Vw.wrongV ⟨u, l⟩).1 ≠ 0
  · rw [if_pos h1]; exact vFold_a u a n cap l ea en ec w h h1
  · rw [if_neg h1]; exact vFold_b u a n cap l ea en ec es w h hes (Classical.byContradiction h1)
end Go.Proofs.Ythhcdfjijagalaa
