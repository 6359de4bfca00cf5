/- Contract: Apply, the program's. -/
import Derived.Test.YtjdgfijpmljhiaaViewB
import Derived.Test.YtjdgfijpmljhiaaViewC
import Derived.Test.YtjdgfijpmljhiaaViewD
import Derived.Test.YtjdgfijpmljhiaaVwLaw
namespace Go.Proofs.Ytjdgfijpmljhiaa
open Go.RowKit
set_option linter.unusedVariables false
/-- It returns a view and an error's number. -/
def VAns (r : Vw.St) (w : World) (e : Ending) (w' : World) : Prop := ∃ a n cap, e = .returned (.tuple #[viVal r.v.upto a n cap, .int .i64 r.err]) ∧ As w' a n cap r.v.accs ∧ Below w.heap.size w w'
theorem vans_bad {w w' : World} {E : Int} (hb : Below w.heap.size w w') : VAns ⟨Vw.none', E⟩ w (.returned (.tuple #[.agg #[.int .i64 0, .slice none 0 0], .int .i64 E])) w' := ⟨none, 0, 0, rfl, As.nil _, hb⟩
theorem three_blk (w : World) (o1 o2 o3 : Obj) (w1 : World) (hb : Below (((w.alloc o1).alloc o2).alloc o3).heap.size (((w.alloc o1).alloc o2).alloc o3) w1) :
    w1.heap[w.heap.size]? = some o1 ∧ w1.heap[w.heap.size + 1]? = some o2 ∧ w1.heap[w.heap.size + 1 + 1]? = some o3 ∧ w.heap.size + 1 + 1 < w1.heap.size ∧ Below w.heap.size w w1 := by
  have hs := hb.size
  simp only [World.size_alloc] at hs
  have n1 := blk_new w o1
  have n2 := blk_new (w.alloc o1) o2
  have n3 := blk_new ((w.alloc o1).alloc o2) o3
  simp only [World.size_alloc] at n2 n3
  have n1' := blk_old (o' := o3) (blk_old (o' := o2) n1)
  have n2' := blk_old (o' := o3) n2
  refine ⟨?_, ?_, ?_, by omega, ?_⟩
  · rw [hb.block _ (by simp only [World.size_alloc]; omega)]; exact n1'
  · rw [hb.block _ (by simp only [World.size_alloc]; omega)]; exact n2'
  · rw [hb.block _ (by simp only [World.size_alloc]; omega)]; exact n3
  · exact bnext ((((Below.refl _ _).alloc (Nat.le_refl _) _).alloc (by simp) _).alloc (by simp; omega) _) hb
theorem blk_set {w : World} {b i : Nat} {cs : Array Value} {t : TypeId} (h : w.heap[b]? = some (.cells cs t (0, 0))) (v : Value) : (w.setCell ⟨b, i, none⟩ v).heap[b]? = some (.cells (cs.setIfInBounds i v) t (0, 0)) := by
  exact heap_setCell_same w b i cs t v h
/-- the result's cells -/
theorem res_blk {w : World} {b : Nat} {x y : Value} {t : TypeId} (h : w.heap[b]? = some (.cells #[x, y] t (0, 0))) (v0 v1 : Value) : ((w.setCell ⟨b, 0, none⟩ v0).setCell ⟨b, 1, none⟩ v1).heap[b]? = some (.cells #[v0, v1] t (0, 0)) := blk_set (i := 1) (blk_set (i := 0) h v0) v1
theorem res_two {w w1 : World} {b : Nat} {x y : Value} {t : TypeId} (hb : Below w.heap.size w w1) (hle : w.heap.size ≤ b) (h : w1.heap[b]? = some (.cells #[x, y] t (0, 0))) (v0 v1 : Value) :
    ((w1.setCell ⟨b, 0, none⟩ v0).setCell ⟨b, 1, none⟩ v1).cell? ⟨b, 0, none⟩ = some v0 ∧ ((w1.setCell ⟨b, 0, none⟩ v0).setCell ⟨b, 1, none⟩ v1).cell? ⟨b, 1, none⟩ = some v1 ∧ Below w.heap.size w ((w1.setCell ⟨b, 0, none⟩ v0).setCell ⟨b, 1, none⟩ v1) :=
  have q := res_blk h v0 v1
  ⟨blk_cell (i := 0) q, blk_cell (i := 1) q, (hb.setCell (p := ⟨b, 0, none⟩) hle v0).setCell (p := ⟨b, 1, none⟩) hle v1⟩
theorem res_twoD {w w1 : World} {b : Nat} {x y : Value} {t : TypeId} (hb : Below w.heap.size w w1) (hle : w.heap.size ≤ b) (h : w1.heap[b]? = some (.cells #[x, y] t (0, 0))) (v0 v1 : Value) (o : Obj) :
    (((w1.setCell ⟨b, 0, none⟩ v0).setCell ⟨b, 1, none⟩ v1).alloc o).drew.cell? ⟨b, 0, none⟩ = some v0 ∧ (((w1.setCell ⟨b, 0, none⟩ v0).setCell ⟨b, 1, none⟩ v1).alloc o).drew.cell? ⟨b, 1, none⟩ = some v1 ∧ Below w.heap.size w (((w1.setCell ⟨b, 0, none⟩ v0).setCell ⟨b, 1, none⟩ v1).alloc o).drew :=
  have q := res_two hb hle h v0 v1
  ⟨(cell_old (World.block_lt_of_cell? _ _ q.1)).trans q.1, (cell_old (World.block_lt_of_cell? _ _ q.2.1)).trans q.2.1, below_drewN (q.2.2.alloc q.2.2.size o) 1⟩

set_option maxHeartbeats 2000000 in
theorem vApply_a (u : Int) (a : Option Addr) (n cap : Nat) (l : List Vw.Acc) (e : Evt.Ev) (w : World) (h : As w a n cap l) (h1 : (Vw.wrongV ⟨u, l⟩).1 ≠ 0) :
    Calls Try.prog 18 #[viVal u a n cap, evVal e] w (VAns ⟨Vw.none', (Vw.wrongV ⟨u, l⟩).1⟩ w) := by
  have D := hid (fun W (hW : As W a n cap l) => vWrong_call u a n cap l W hW)
  obtain ⟨s, k, m⟩ := e
  obtain ⟨E, hE⟩ : ∃ E, E = Vw.wrongV ⟨u, l⟩ := ⟨_, rfl⟩
  rw [← hE] at h1 ⊢
  rw [← hE] at D
  clear hE
  obtain ⟨E1, E2⟩ := E
  unfold viVal evVal
  unfold viVal fVal' at D
  simp only at h1 D ⊢
  have t0 : (E1 != 0) = true := bne_iff_ne.2 h1
  replace h1 := hid h1
  go_enter Try.func18, Try.ntmps18
  go_wp2_with fail
  go_at_call 11; refine (D.out _ (((h.alloc _).alloc _).alloc _)).mono ?_; rintro e w1 ⟨rfl, b1⟩
  obtain ⟨v1, v2, v3, hs1, hb⟩ := three_blk w _ _ _ w1 b1
  have z1 : w.heap.size + 1 + 1 ≠ w1.heap.size := by omega
  have z2 : w1.heap.size ≠ w.heap.size + 1 + 1 := by omega
  have r0 : w1.cell? ⟨w.heap.size + 1 + 1, 0, none⟩ = some (.int .i64 0) := blk_cell v3
  have r1 : w1.cell? ⟨w.heap.size + 1 + 1, 1, none⟩ = some (.slice none 0 0) := blk_cell v3
  have f0 : w1.frozen? ⟨w.heap.size + 1 + 1, 0, none⟩ = false := blk_free v3
  have f1 : w1.frozen? ⟨w.heap.size + 1 + 1, 1, none⟩ = false := blk_free v3
  clear b1
  go_wp2_with fail
  go_region
  go_wp2_with fail
  obtain ⟨q0, q1, q2⟩ := res_twoD hb (by omega) v3 (.int .i64 0) (.slice none 0 0) (.cells #[.int .i64 E1, .int .i64 E2] 28)
  exact bodyPost_ret (v := .tuple #[.agg #[.int .i64 0, .slice none 0 0], .int .i64 E1]) (by simp [results, Try.results18, go_sem, q0, q1]) rfl (vans_bad q2)
theorem call_blk {W W' : World} {b : Nat} {o o' : Obj} (h : W.heap[b]? = some o) (hb : Below (W.alloc o').heap.size (W.alloc o') W') : W'.heap[b]? = some o := blk_below (blk_old h) hb
theorem call_below {w W W' : World} {o' : Obj} (h : Below w.heap.size w W) (hb : Below (W.alloc o').heap.size (W.alloc o') W') : Below w.heap.size w W' := bnext (h.alloc h.size o') hb
set_option maxHeartbeats 2000000 in
theorem vApply_b (u : Int) (a : Option Addr) (n cap : Nat) (l : List Vw.Acc) (e : Evt.Ev) (w : World) (h : As w a n cap l) (he : e.s.size ≤ maxLen) (h1 : (Vw.wrongV ⟨u, l⟩).1 = 0) (h2 : Evt.wrongEv e ≠ 0) :
    Calls Try.prog 18 #[viVal u a n cap, evVal e] w (VAns ⟨Vw.none', Evt.wrongEv e⟩ w) := by
  have D := hid (fun W (hW : As W a n cap l) => vWrong_call u a n cap l W hW)
  have D2 := hid (fun W => eWrong_call e he W)
  obtain ⟨s, k, m⟩ := e
  obtain ⟨E, hE⟩ : ∃ E, E = Vw.wrongV ⟨u, l⟩ := ⟨_, rfl⟩
  rw [← hE] at h1 D
  clear hE
  obtain ⟨E1, E2⟩ := E
  obtain ⟨K, hK⟩ : ∃ K, K = Evt.wrongEv ⟨s, k, m⟩ := ⟨_, rfl⟩
  rw [← hK] at h2 D2 ⊢
  replace hK := hid hK
  have h1 : E1 = 0 := h1
  subst h1
  unfold viVal evVal
  unfold viVal fVal' at D
  unfold evVal at D2
  simp only at D D2 ⊢
  have t0 : (K != 0) = true := bne_iff_ne.2 h2
  replace h2 := hid h2
  go_enter Try.func18, Try.ntmps18
  go_wp2_with fail
  go_at_call 11; refine (D.out _ (((h.alloc _).alloc _).alloc _)).mono ?_; rintro e w1 ⟨rfl, b1⟩
  obtain ⟨v1, v2, v3, hs1, hb⟩ := three_blk w _ _ _ w1 b1
  clear b1
  have r0 : (w1.alloc (.cells #[.int .i64 0, .int .i64 E2] 28)).cell? ⟨w.heap.size + 1, 0, none⟩ = some (.string s) := blk_cell (blk_old v2)
  have r1 : (w1.alloc (.cells #[.int .i64 0, .int .i64 E2] 28)).cell? ⟨w.heap.size + 1, 1, none⟩ = some (.int .i64 k) := blk_cell (blk_old v2)
  have r2 : (w1.alloc (.cells #[.int .i64 0, .int .i64 E2] 28)).cell? ⟨w.heap.size + 1, 2, none⟩ = some (.int .i64 m) := blk_cell (blk_old v2)
  go_wp2_with fail
  go_at_call 38; refine (D2.out _).mono ?_; rintro e w2 ⟨rfl, b2⟩
  replace v3 := call_blk v3 b2
  replace hb := call_below hb b2
  clear b2 r0 r1 r2 v1 v2
  have q0 : w2.cell? ⟨w.heap.size + 1 + 1, 0, none⟩ = some (.int .i64 0) := blk_cell v3
  have q1 : w2.cell? ⟨w.heap.size + 1 + 1, 1, none⟩ = some (.slice none 0 0) := blk_cell v3
  have f0 : w2.frozen? ⟨w.heap.size + 1 + 1, 0, none⟩ = false := blk_free v3
  have f1 : w2.frozen? ⟨w.heap.size + 1 + 1, 1, none⟩ = false := blk_free v3
  go_wp2_with fail
  obtain ⟨q0, q1, q2⟩ := res_two hb (by omega) v3 (.int .i64 0) (.slice none 0 0)
  exact bodyPost_ret (v := .tuple #[.agg #[.int .i64 0, .slice none 0 0], .int .i64 K]) (by simp [results, Try.results18, go_sem, q0, q1]) rfl (vans_bad q2)
set_option maxHeartbeats 2000000 in
theorem vApply_c (a : Option Addr) (n cap : Nat) (l : List Vw.Acc) (e : Evt.Ev) (w : World) (h : As w a n cap l) (he : e.s.size ≤ maxLen) (h1 : (Vw.wrongV ⟨150, l⟩).1 = 0) (h2 : Evt.wrongEv e = 0) :
    Calls Try.prog 18 #[viVal 150 a n cap, evVal e] w (VAns ⟨Vw.none', 5⟩ w) := by
  have D := hid (fun W (hW : As W a n cap l) => vWrong_call 150 a n cap l W hW)
  have D2 := hid (fun W => eWrong_call e he W)
  rw [h2] at D2
  replace h2 := hid h2
  obtain ⟨s, k, m⟩ := e
  obtain ⟨E, hE⟩ : ∃ E, E = Vw.wrongV ⟨150, l⟩ := ⟨_, rfl⟩
  rw [← hE] at h1 D
  clear hE
  obtain ⟨E1, E2⟩ := E
  have h1 : E1 = 0 := h1
  subst h1
  unfold viVal evVal
  unfold viVal fVal' at D
  unfold evVal at D2
  simp only at D D2 ⊢
  go_enter Try.func18, Try.ntmps18
  go_wp2_with fail
  go_at_call 11; refine (D.out _ (((h.alloc _).alloc _).alloc _)).mono ?_; rintro e w1 ⟨rfl, b1⟩
  obtain ⟨v1, v2, v3, hs1, hb⟩ := three_blk w _ _ _ w1 b1
  clear b1
  have r0 : (w1.alloc (.cells #[.int .i64 0, .int .i64 E2] 28)).cell? ⟨w.heap.size + 1, 0, none⟩ = some (.string s) := blk_cell (blk_old v2)
  have r1 : (w1.alloc (.cells #[.int .i64 0, .int .i64 E2] 28)).cell? ⟨w.heap.size + 1, 1, none⟩ = some (.int .i64 k) := blk_cell (blk_old v2)
  have r2 : (w1.alloc (.cells #[.int .i64 0, .int .i64 E2] 28)).cell? ⟨w.heap.size + 1, 2, none⟩ = some (.int .i64 m) := blk_cell (blk_old v2)
  go_wp2_with fail
  go_at_call 38; refine (D2.out _).mono ?_; rintro e w2 ⟨rfl, b2⟩
  replace v1 := call_blk v1 b2
  replace v3 := call_blk v3 b2
  replace hb := call_below hb b2
  clear b2 r0 r1 r2 v2
  have p0 : w2.cell? ⟨w.heap.size, 0, none⟩ = some (.int .i64 150) := blk_cell v1
  have q0 : w2.cell? ⟨w.heap.size + 1 + 1, 0, none⟩ = some (.int .i64 0) := blk_cell v3
  have q1 : w2.cell? ⟨w.heap.size + 1 + 1, 1, none⟩ = some (.slice none 0 0) := blk_cell v3
  have f0 : w2.frozen? ⟨w.heap.size + 1 + 1, 0, none⟩ = false := blk_free v3
  have f1 : w2.frozen? ⟨w.heap.size + 1 + 1, 1, none⟩ = false := blk_free v3
  go_wp2_with fail
  obtain ⟨q0, q1, q2⟩ := res_two hb (by omega) v3 (.int .i64 0) (.slice none 0 0)
  exact bodyPost_ret (v := .tuple #[.agg #[.int .i64 0, .slice none 0 0], .int .i64 5]) (by simp [results, Try.results18, go_sem, q0, q1]) rfl (vans_bad q2)
set_option maxHeartbeats 2000000 in
theorem vApply_d (u : Int) (a : Option Addr) (n cap : Nat) (l : List Vw.Acc) (e : Evt.Ev) (w : World) (h : As w a n cap l) (he : e.s.size ≤ maxLen) (h1 : (Vw.wrongV ⟨u, l⟩).1 = 0) (h2 : Evt.wrongEv e = 0) (h3 : u ≠ 150) (h4 : Vw.may (Vw.get l e.s) e = false) :
    Calls Try.prog 18 #[viVal u a n cap, evVal e] w (VAns ⟨Vw.none', 8⟩ w) := by
  have D := hid (fun W (hW : As W a n cap l) => vWrong_call u a n cap l W hW)
  have D2 := hid (fun W => eWrong_call e he W)
  have D3 := hid (fun W (hW : As W a n cap l) => vGet_call u a n cap l e.s W hW)
  have D4 := hid (fun W => vMay_call (Vw.get l e.s) e W)
  rw [h2] at D2
  rw [h4] at D4
  replace h2 := hid h2
  replace h4 := hid h4
  obtain ⟨s, k, m⟩ := e
  simp only at D3 D4
  obtain ⟨A, hA⟩ : ∃ A, A = Vw.get l s := ⟨_, rfl⟩
  rw [← hA] at D3 D4
  replace hA := hid hA
  obtain ⟨As', Am, Ac, Ao⟩ := A
  obtain ⟨E, hE⟩ : ∃ E, E = Vw.wrongV ⟨u, l⟩ := ⟨_, rfl⟩
  rw [← hE] at h1 D
  clear hE
  obtain ⟨E1, E2⟩ := E
  have h1 : E1 = 0 := h1
  subst h1
  unfold viVal evVal
  unfold viVal fVal' at D
  unfold evVal at D2 D4
  unfold acVal at D3 D4
  unfold viVal at D3
  simp only at D D2 D3 D4 ⊢
  have t0 : (u == 150) = false := beq_eq_false_iff_ne.2 h3
  replace h3 := hid h3
  go_enter Try.func18, Try.ntmps18
  go_wp2_with fail
  go_at_call 11; refine (D.out _ (((h.alloc _).alloc _).alloc _)).mono ?_; rintro e w1 ⟨rfl, b1⟩
  obtain ⟨v1, v2, v3, hs1, hb⟩ := three_blk w _ _ _ w1 b1
  clear b1
  have r0 : (w1.alloc (.cells #[.int .i64 0, .int .i64 E2] 28)).cell? ⟨w.heap.size + 1, 0, none⟩ = some (.string s) := blk_cell (blk_old v2)
  have r1 : (w1.alloc (.cells #[.int .i64 0, .int .i64 E2] 28)).cell? ⟨w.heap.size + 1, 1, none⟩ = some (.int .i64 k) := blk_cell (blk_old v2)
  have r2 : (w1.alloc (.cells #[.int .i64 0, .int .i64 E2] 28)).cell? ⟨w.heap.size + 1, 2, none⟩ = some (.int .i64 m) := blk_cell (blk_old v2)
  go_wp2_with fail
  go_at_call 38; refine (D2.out _).mono ?_; rintro e w2 ⟨rfl, b2⟩
  replace v1 := call_blk v1 b2
  replace v2 := call_blk v2 b2
  replace v3 := call_blk v3 b2
  replace hb := call_below hb b2
  clear b2 r0 r1 r2
  have p0 : w2.cell? ⟨w.heap.size, 0, none⟩ = some (.int .i64 u) := blk_cell v1
  have p1 : w2.cell? ⟨w.heap.size, 1, none⟩ = some (.slice a n cap) := blk_cell v1
  have p2 : w2.cell? ⟨w.heap.size + 1, 0, none⟩ = some (.string s) := blk_cell v2
  go_wp2_with fail
  go_at_call 13; refine (D3.out _ (h.below hb)).mono ?_; rintro e w3 ⟨rfl, b3⟩
  replace v2 := blk_below v2 b3
  replace v3 := blk_below v3 b3
  replace hb := bnext hb b3
  clear b3 p0 p1 p2
  have r0 : (w3.alloc (.cells #[.string As', .int .i64 Am, .int .i64 Ac, .bool Ao] 31)).cell? ⟨w.heap.size + 1, 0, none⟩ = some (.string s) := blk_cell (blk_old v2)
  have r1 : (w3.alloc (.cells #[.string As', .int .i64 Am, .int .i64 Ac, .bool Ao] 31)).cell? ⟨w.heap.size + 1, 1, none⟩ = some (.int .i64 k) := blk_cell (blk_old v2)
  have r2 : (w3.alloc (.cells #[.string As', .int .i64 Am, .int .i64 Ac, .bool Ao] 31)).cell? ⟨w.heap.size + 1, 2, none⟩ = some (.int .i64 m) := blk_cell (blk_old v2)
  go_wp2_with fail
  go_at_call 16; refine (D4.out _).mono ?_; rintro e w4 ⟨rfl, b4⟩
  replace v3 := call_blk v3 b4
  replace hb := call_below hb b4
  clear b4 r0 r1 r2 v2
  have q0 : w4.cell? ⟨w.heap.size + 1 + 1, 0, none⟩ = some (.int .i64 0) := blk_cell v3
  have q1 : w4.cell? ⟨w.heap.size + 1 + 1, 1, none⟩ = some (.slice none 0 0) := blk_cell v3
  have f0 : w4.frozen? ⟨w.heap.size + 1 + 1, 0, none⟩ = false := blk_free v3
  have f1 : w4.frozen? ⟨w.heap.size + 1 + 1, 1, none⟩ = false := blk_free v3
  go_wp2_with fail
  obtain ⟨q0, q1, q2⟩ := res_two hb (by omega) v3 (.int .i64 0) (.slice none 0 0)
  exact bodyPost_ret (v := .tuple #[.agg #[.int .i64 0, .slice none 0 0], .int .i64 8]) (by simp [results, Try.results18, go_sem, q0, q1]) rfl (vans_bad q2)

end Go.Proofs.Ytjdgfijpmljhiaa
