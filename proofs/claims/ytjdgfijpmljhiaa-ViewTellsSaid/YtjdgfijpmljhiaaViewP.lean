/- Contract: the reference's Apply. -/
import Derived.Test.YtjdgfijpmljhiaaViewO
import Derived.Test.YtjdgfijpmljhiaaVwIns
import Derived.Deep.CutBlock
namespace Go.Proofs.Ytjdgfijpmljhiaa
open Go.RowKit Go.Maps
set_option linter.unusedVariables false

theorem plus_ref {A : Vw.Acc} {e : Evt.Ev} (hm : Vw.may A e = true) (hw : Evt.wrongEv e = 0) : Vw.plus A e = ⟨A.s, A.sum + e.n * sgn e.k, A.cnt + 1, (e.k != 4)⟩ := by
  obtain ⟨_, h1, h4, _, _⟩ := Evt.wrongEv_zero hw
  obtain ⟨s, k, m⟩ := e
  obtain ⟨t, su, c, o⟩ := A
  simp only at h1 h4 ⊢
  unfold Vw.may at hm
  unfold Vw.plus sgn
  simp only at hm ⊢
  have hk : k = 1 ∨ k = 2 ∨ k = 3 ∨ k = 4 := by omega
  rcases hk with rfl | rfl | rfl | rfl
  · simp
  · simp at hm; simp [hm]
  · simp at hm; simp [hm.1]; omega
  · simp
theorem sgn_bd (k m : Int) (h0 : 0 ≤ m) (h1 : m ≤ 1000000) : -1000000 ≤ m * sgn k ∧ m * sgn k ≤ 1000000 := by
  unfold sgn
  split
  · omega
  · split <;> omega
theorem grown_blk {w w' : World} {m b : Nat} {o : Obj} (h : w.grownBy w' (some m)) (hb : w.heap[b]? = some o) (hne : b ≠ m) : w'.heap[b]? = some o := by
  rw [h.block b (blk_lt hb) (fun e => hne (by injection e))]; exact hb

theorem src_acc (X : World) (x : Vw.Acc) {b : Nat} (hb : X.heap.size = b) : Src Try.prog 4 22 (.slice (some ⟨b, 0, none⟩) 1 1) 1 (ac4 x) (X.alloc (.cells #[.string x.s, .int .i64 x.sum, .int .i64 x.cnt, .bool x.opn] 31)) := by
  subst hb
  exact Src.ofLit (P := Try.prog) X #[.string x.s, .int .i64 x.sum, .int .i64 x.cnt, .bool x.opn] 31 1 4 Try.underlying22 rfl (by simp [Value.oneCell'])
section
variable {ops : Array Oper} {rest : List Oper} {o : Oper} {a : Act} {Q : Exit → Act → World → Prop}
theorem wpList_append_acc (hgd : o.guard = none) (s xo : Operand) (ho : o.op = .call { callee := .builtin .append, args := #[s, xo], argTypes := #[22, 22] })
    {W0 X : World} (base : Nat) (v : Value) (L : List Vw.Acc) (x : Vw.Acc) (b : Nat) (hs : a.eval s = v) (hown : OT W0 X none base 31 4 v L.length (acCells L))
    (hxe : a.eval xo = .slice (some ⟨b, 0, none⟩) 1 1) (hx : Src Try.prog 4 22 (.slice (some ⟨b, 0, none⟩) 1 1) 1 (ac4 x) (X.alloc (.cells #[.string x.s, .int .i64 x.sum, .int .i64 x.cnt, .bool x.opn] 31))) (hlen : L.length ≤ 151) (hbase : base ≤ X.heap.size)
    (h : ∀ v' w', OT W0 w' none base 31 4 v' (L.length + 1) (acCells (L ++ [x])) → (X.alloc (.cells #[.string x.s, .int .i64 x.sum, .int .i64 x.cnt, .bool x.opn] 31)).grownBy w' v.ownBlock → wpList Try.prog ops Q rest (a.put o.dst v') w') : wpList Try.prog ops Q (o :: rest) a (X.alloc (.cells #[.string x.s, .int .i64 x.sum, .int .i64 x.cnt, .bool x.opn] 31)) := by
  refine wpList_append_t hgd s xo 22 22 ho base 31 4 40 (.agg #[.string ⟨#[]⟩, .int .i64 0, .int .i64 0, .bool false]) Try.underlying22 info_acc rfl (by decide) v L.length (acCells L) hs (hown.alloc _) (.slice (some ⟨b, 0, none⟩) 1 1) 1 (ac4 x) hxe hx (by unfold maxLen; omega) (by omega) (by simp; omega) ?_
  intro v' w' h1 h2
  refine h v' w' ?_ h2
  rw [acCells_append]
  have : acCells [x] = ac4 x := by unfold acCells; simp
  rw [this]
  exact h1
end
theorem grownBy_set (w : World) (b i : Nat) (v : Value) : w.grownBy (w.setCell ⟨b, i, none⟩ v) (some b) := ⟨rfl, rfl, rfl, by simp, fun j _ hj => Below.heap_setCell w ⟨b, i, none⟩ v j (fun e => hj (by rw [e]))⟩
/-- behind an append, and the store of its result -/
theorem ap_done {W0 X w5 : World} {B bo N N5 : Nat} {v v' v5 : Value} {L L5 : List Vw.Acc} {o : Obj} {uu : Int} (hO : OT W0 X none B 31 4 v N (acCells L)) (hb : X.heap[bo]? = some (.cells #[.int .i64 uu, v'] 24 (0, 0))) (hle : W0.heap.size ≤ bo)
    (o5 : OT W0 w5 none B 31 4 v5 N5 (acCells L5)) (g5 : (X.alloc o).grownBy w5 v.ownBlock) :
    w5.heap[bo]? = some (.cells #[.int .i64 uu, v'] 24 (0, 0)) ∧ (w5.setCell ⟨bo, 1, none⟩ v5).heap[bo]? = some (.cells #[.int .i64 uu, v5] 24 (0, 0)) ∧ OT W0 (w5.setCell ⟨bo, 1, none⟩ v5) none B 31 4 v5 N5 (acCells L5) := by
  have h1 := grown_other (hO.alloc o).own g5 (blk_old hb) (by decide)
  refine ⟨h1, blk_set (i := 1) h1 _, o5.step (grownBy_set w5 bo 1 v5) (.inr fun x e => ?_)⟩
  cases e
  exact ⟨hle, own_blk_ne o5.own h1 (by decide)⟩
theorem ok_snoc {L : List Vw.Acc} {x : Vw.Acc} (h : ∀ e ∈ L, e.s.size ≤ maxLen) (hx : x.s.size ≤ maxLen) : ∀ e ∈ L ++ [x], e.s.size ≤ maxLen := by
  intro e he
  rcases List.mem_append.1 he with he | he
  · exact h e he
  · obtain rfl : e = x := by simpa using he
    exact hx
section
variable {ops : Array Oper} {rest : List Oper} {o : Oper} {a : Act} {Q : Exit → Act → World → Prop}
theorem wpList_append_acc2 (hgd : o.guard = none) (s xo : Operand) (ho : o.op = .call { callee := .builtin .append, args := #[s, xo], argTypes := #[22, 22] })
    {W0 X : World} (base : Nat) (v : Value) (L : List Vw.Acc) (x : Vw.Acc) (b N : Nat) (hs : a.eval s = v) (hown : OT W0 X none base 31 4 v N (acCells L))
    (hxe : a.eval xo = .slice (some ⟨b, 0, none⟩) 1 1) (hx : Src Try.prog 4 22 (.slice (some ⟨b, 0, none⟩) 1 1) 1 (ac4 x) (X.alloc (.cells #[.string x.s, .int .i64 x.sum, .int .i64 x.cnt, .bool x.opn] 31))) (hlen : N ≤ 152) (hbase : base ≤ X.heap.size)
    (h : ∀ v' w', OT W0 w' none base 31 4 v' (N + 1) (acCells (L ++ [x])) → (X.alloc (.cells #[.string x.s, .int .i64 x.sum, .int .i64 x.cnt, .bool x.opn] 31)).grownBy w' v.ownBlock → wpList Try.prog ops Q rest (a.put o.dst v') w') : wpList Try.prog ops Q (o :: rest) a (X.alloc (.cells #[.string x.s, .int .i64 x.sum, .int .i64 x.cnt, .bool x.opn] 31)) := by
  refine wpList_append_t hgd s xo 22 22 ho base 31 4 40 (.agg #[.string ⟨#[]⟩, .int .i64 0, .int .i64 0, .bool false]) Try.underlying22 info_acc rfl (by decide) v N (acCells L) hs (hown.alloc _) (.slice (some ⟨b, 0, none⟩) 1 1) 1 (ac4 x) hxe hx (by unfold maxLen; omega) (by omega) (by simp; omega) ?_
  intro v' w' h1 h2
  refine h v' w' ?_ h2
  rw [acCells_append]
  have : acCells [x] = ac4 x := by unfold acCells; simp
  rw [this]
  exact h1
end

set_option maxRecDepth 100000 in
set_option maxHeartbeats 4000000 in
theorem rApply_e (u : Int) (a : Option Addr) (n cap : Nat) (l : List Vw.Acc) (e : Evt.Ev) (w : World) (h : As w a n cap l) (he : e.s.size ≤ maxLen) (h1 : (Vw.wrongV ⟨u, l⟩).1 = 0) (h2 : Evt.wrongEv e = 0) (h3 : u ≠ 150) (h4 : Vw.may (Vw.get l e.s) e = true) :
    Calls Try.prog 19 #[viVal u a n cap, evVal e] w (VAns ⟨⟨u + 1, Vw.ins (Vw.plus (Vw.get l e.s) e) l⟩, 0⟩ w) := by
  have D := hid (fun W (hW : As W a n cap l) => rWrongView_call u a n cap l W hW)
  have D2 := hid (fun W => rWrongEvent_call e he W)
  have D3 := hid (fun W (hW : As W a n cap l) => rGet_call u a n cap l e.s W hW)
  have D4 := hid (fun W => rMay_call (Vw.get l e.s) e W)
  rw [h2] at D2
  rw [h4] at D4
  have hG := (Vw.wrongV_good ⟨u, l⟩).1 h1
  have hev := Evt.wrongEv_zero h2
  have hbd := hid (hG.each.bounds e.s hG.lo)
  have hu : u ≤ 150 := hG.hi
  have hu0 : 0 ≤ u := hG.lo
  have hlen := hG.len
  have hcn := h.cnt
  replace hG := hid hG
  have hpl := plus_ref h4 h2
  replace h2 := hid h2
  replace h4 := hid h4
  obtain ⟨s, k, m⟩ := e
  simp only at D3 D4 hbd hpl
  obtain ⟨A, hA⟩ : ∃ A, A = Vw.get l s := ⟨_, rfl⟩
  rw [← hA] at D3 D4 hbd hpl
  replace hA := hid hA
  obtain ⟨As', Am, Ac, Ao⟩ := A
  obtain ⟨E, hE⟩ : ∃ E, E = Vw.wrongV ⟨u, l⟩ := ⟨_, rfl⟩
  rw [← hE] at h1 D
  clear hE
  obtain ⟨E1, E2⟩ := E
  have h1 : E1 = 0 := h1
  subst h1
  unfold viVal evVal
  unfold viVal fVal' at D
  unfold evVal at D2 D4
  unfold acVal at D3 D4
  unfold viVal at D3
  simp only at D D2 D3 D4 hpl ⊢
  have hu150 : ¬ 150 ≤ u := by omega
  replace h3 := hid h3
  obtain ⟨g1, g2, g3, g4⟩ := hbd.out
  obtain ⟨_, hk1, hk4, m0, m1⟩ := hev
  replace hpl := hid hpl
  have hn : n ≤ 150 := by
    have : (l.length : Int) ≤ u := hlen
    omega
  replace hcn := hid hcn
  clear hlen
  have hmm := @run_makeMap Try.prog
  go_enter Try.func19, Try.ntmps19
  go_wp2_with fail
  go_at_call 12; refine (D.out _ (((h.alloc _).alloc _).alloc _)).mono ?_; rintro e w1 ⟨rfl, b1⟩
  obtain ⟨v1, v2, v3, hs1, hb⟩ := three_blk w _ _ _ w1 b1
  clear b1
  have r0 : (w1.alloc (.cells #[.int .i64 0, .int .i64 E2] 28)).cell? ⟨w.heap.size + 1, 0, none⟩ = some (.string s) := blk_cell (blk_old v2)
  have r1 : (w1.alloc (.cells #[.int .i64 0, .int .i64 E2] 28)).cell? ⟨w.heap.size + 1, 1, none⟩ = some (.int .i64 k) := blk_cell (blk_old v2)
  have r2 : (w1.alloc (.cells #[.int .i64 0, .int .i64 E2] 28)).cell? ⟨w.heap.size + 1, 2, none⟩ = some (.int .i64 m) := blk_cell (blk_old v2)
  go_wp2_with fail
  go_at_call 15; refine (D2.out _).mono ?_; rintro e w2 ⟨rfl, b2⟩
  replace v1 := call_blk v1 b2
  replace v2 := call_blk v2 b2
  replace v3 := call_blk v3 b2
  replace hb := call_below hb b2
  clear b2 r0 r1 r2
  have p0 : w2.cell? ⟨w.heap.size, 0, none⟩ = some (.int .i64 u) := blk_cell v1
  have p1 : w2.cell? ⟨w.heap.size, 1, none⟩ = some (.slice a n cap) := blk_cell v1
  have p2 : w2.cell? ⟨w.heap.size + 1, 0, none⟩ = some (.string s) := blk_cell v2
  go_wp2_with fail
  go_at_call 14; refine (D3.out _ (h.below hb)).mono ?_; rintro e w3 ⟨rfl, b3⟩
  replace v2 := blk_below v2 b3
  replace v3 := blk_below v3 b3
  replace hb := bnext hb b3
  replace v1 := blk_below v1 b3
  have hs3 := blk_lt v3
  clear b3 p0 p1 p2
  obtain ⟨ba, hba⟩ : ∃ ba, w3.heap.size = ba := ⟨_, rfl⟩
  replace hba := hid hba
  have r0 : (w3.alloc (.cells #[.string As', .int .i64 Am, .int .i64 Ac, .bool Ao] 31)).cell? ⟨w.heap.size + 1, 0, none⟩ = some (.string s) := blk_cell (blk_old v2)
  have r1 : (w3.alloc (.cells #[.string As', .int .i64 Am, .int .i64 Ac, .bool Ao] 31)).cell? ⟨w.heap.size + 1, 1, none⟩ = some (.int .i64 k) := blk_cell (blk_old v2)
  have r2 : (w3.alloc (.cells #[.string As', .int .i64 Am, .int .i64 Ac, .bool Ao] 31)).cell? ⟨w.heap.size + 1, 2, none⟩ = some (.int .i64 m) := blk_cell (blk_old v2)
  go_wp2_with fail
  go_at_call 17; refine (D4.out _).mono ?_; rintro e w4 ⟨rfl, b4⟩
  replace v1 := call_blk v1 b4
  replace v2 := call_blk v2 b4
  replace v3 := call_blk v3 b4
  have v4 : w4.heap[w3.heap.size]? = some (.cells #[.string As', .int .i64 Am, .int .i64 Ac, .bool Ao] 31 (0, 0)) := blk_below (blk_new w3 _) b4
  have hb3 := hb
  replace hb := call_below hb b4
  clear b4 r0 r1 r2
  rw [hba.out] at v4 ⊢
  have p1 : w4.cell? ⟨w.heap.size + 1, 1, none⟩ = some (.int .i64 k) := blk_cell v2
  have p2 : w4.cell? ⟨w.heap.size + 1, 2, none⟩ = some (.int .i64 m) := blk_cell v2
  have a1 : w4.cell? ⟨ba, 1, none⟩ = some (.int .i64 Am) := blk_cell v4
  have a3 : w4.cell? ⟨ba, 3, none⟩ = some (.bool Ao) := blk_cell v4
  have f1 : w4.frozen? ⟨ba, 1, none⟩ = false := blk_free v4
  have f3 : w4.frozen? ⟨ba, 3, none⟩ = false := blk_free v4
  have hba1 : w.heap.size ≤ ba := by rw [← hba.out]; exact hb3.size
  obtain ⟨hx0, hx1, hx2⟩ : w.heap.size ≠ ba ∧ w.heap.size + 1 ≠ ba ∧ w.heap.size + 1 + 1 ≠ ba := by rw [← hba.out]; omega
  have a2 : w4.cell? ⟨ba, 2, none⟩ = some (.int .i64 Ac) := blk_cell v4
  have f2 : w4.frozen? ⟨ba, 2, none⟩ = false := blk_free v4
  have s2 : IntKind.i64.wrap (Ac + 1) = Ac + 1 := IntWalk.i64_in _ (by omega)
  go_upto_region 14 with (fail)
  obtain ⟨W4, hW4⟩ : ∃ W4, (w4.setCell ⟨ba, 2, none⟩ (.int .i64 (Ac + 1))).setCell ⟨ba, 3, none⟩ (.bool (k != 4)) = W4 := ⟨_, rfl⟩
  have d1 : W4.heap[w.heap.size]? = some (.cells #[.int .i64 u, .slice a n cap] 24 (0, 0)) := hW4 ▸ blk_keep (blk_keep v1 hx0 _) hx0 _
  have d2 : W4.heap[w.heap.size + 1]? = some (.cells #[.string s, .int .i64 k, .int .i64 m] 34 (0, 0)) := hW4 ▸ blk_keep (blk_keep v2 hx1 _) hx1 _
  have d3 : W4.heap[w.heap.size + 1 + 1]? = some (.cells #[.int .i64 0, .slice none 0 0] 24 (0, 0)) := hW4 ▸ blk_keep (blk_keep v3 hx2 _) hx2 _
  have d4 : W4.heap[ba]? = some (.cells #[.string As', .int .i64 Am, .int .i64 (Ac + 1), .bool (k != 4)] 31 (0, 0)) := hW4 ▸ blk_set (i := 3) (blk_set (i := 2) v4 _) _
  have hd : Below w.heap.size w W4 := hW4 ▸ (hb.setCell hba1 _).setCell hba1 _
  rw [hW4]
  generalize hop : (k != 4) = op at *
  replace hop := hid hop
  clear hW4 v1 v2 v3 v4 hb p1 p2 a1 a3 f1 f3 a2 f2 s2 hb3 D D2 D3 D4
  have p1 : W4.cell? ⟨w.heap.size + 1, 2, none⟩ = some (.int .i64 m) := blk_cell d2
  have a1 : W4.cell? ⟨ba, 1, none⟩ = some (.int .i64 Am) := blk_cell d4
  have z1 : w.heap.size < W4.heap.size := blk_lt d1
  have z2 : w.heap.size + 1 < W4.heap.size := blk_lt d2
  have z3 : w.heap.size + 1 + 1 < W4.heap.size := blk_lt d3
  have z4 : ba < W4.heap.size := blk_lt d4
  have hbd := sgn_bd k m m0 m1
  have hwf : (Lit.int .i64 k).wf = true := WalkArith.wf_i64 (by omega)
  have s5 : IntKind.i64.wrap (m * sgn k) = m * sgn k := IntWalk.i64_in _ (by omega)
  have s6 : IntKind.i64.wrap (Am + m * sgn k) = Am + m * sgn k := IntWalk.i64_in _ (by omega)
  have s7 : IntKind.i64.wrap (u + 1) = u + 1 := IntWalk.i64_in _ (by omega)
  have LK := hid (fun (W : World) (h : W.ownsMap Try.prog 3 (plainElem (H := Unit) Try.prog 3) W4.heap.size 2 (((DataW.map []).put (.int .i64 2) (.lit (.int .i64 1))).put (.int .i64 3) (.lit (.int .i64 (-1))))) => sgn_look h k hwf)
  generalize sgn k = sg at *
  obtain ⟨sm, hsm⟩ : ∃ sm, IntKind.i64.wrap (Am + m * sg) = sm := ⟨_, rfl⟩
  rw [← s6, hsm] at hpl
  clear s6 hbd
  go_upto_region 15 with (first
    | (refine wpList_insert_own _ rfl (.tmp 52) (.const (.int .i64 2)) (.const (.int .i64 1)) 72 rfl 3 3 (int_keyed Try.underlying3) Try.underlying72 (plainElem (H := Unit) Try.prog 3) W4.heap.size 0 (.map []) rfl (World.ownsMap_made _ _ _ _) (by decide) _ _ (.int .i64 2) rfl rfl (int_key 2 (by decide)) (.lit (.int .i64 1)) [] (plainElem_int Try.underlying3 (by decide)) ?_; intro w5 ho5 hg5)
    | (refine wpList_insert_own _ rfl (.tmp 52) (.const (.int .i64 3)) (.const (.int .i64 (-1))) 72 rfl 3 3 (int_keyed Try.underlying3) Try.underlying72 (plainElem (H := Unit) Try.prog 3) W4.heap.size 1 _ rfl ho5 (by decide) _ _ (.int .i64 3) rfl rfl (int_key 3 (by decide)) (.lit (.int .i64 (-1))) [] (plainElem_int Try.underlying3 (by decide)) ?_; intro w6 ho6 hg6; have hlk := LK.out _ ho6; have e1 := grown_blk hg6 (grown_blk hg5 (blk_old d1) (Nat.ne_of_lt z1)) (Nat.ne_of_lt z1); have e2 := grown_blk hg6 (grown_blk hg5 (blk_old d2) (Nat.ne_of_lt z2)) (Nat.ne_of_lt z2); have e3 := grown_blk hg6 (grown_blk hg5 (blk_old d3) (Nat.ne_of_lt z3)) (Nat.ne_of_lt z3); have e4 := grown_blk hg6 (grown_blk hg5 (blk_old d4) (Nat.ne_of_lt z4)) (Nat.ne_of_lt z4); have g0 := blk_cell (i := 1) e2; have g1 := blk_cell (i := 1) e4; have g2 := blk_free (i := 1) e4; have g3 := blk_cell (i := 0) e1; have g4 := blk_cell (i := 1) e1; have g5 : w.heap.size ≠ ba := hx0; have g6 := Ne.symm g5))
  obtain ⟨W0, hW0⟩ : ∃ W0, w6.setCell ⟨ba, 1, none⟩ (.int .i64 sm) = W0 := ⟨_, rfl⟩
  have c1 : W0.heap[w.heap.size]? = some (.cells #[.int .i64 u, .slice a n cap] 24 (0, 0)) := hW0 ▸ blk_keep e1 hx0 _
  have c2 : W0.heap[w.heap.size + 1]? = some (.cells #[.string s, .int .i64 k, .int .i64 m] 34 (0, 0)) := hW0 ▸ blk_keep e2 hx1 _
  have c3 : W0.heap[w.heap.size + 1 + 1]? = some (.cells #[.int .i64 0, .slice none 0 0] 24 (0, 0)) := hW0 ▸ blk_keep e3 hx2 _
  have c4 : W0.heap[ba]? = some (.cells #[.string As', .int .i64 sm, .int .i64 (Ac + 1), .bool op] 31 (0, 0)) := hW0 ▸ blk_set (i := 1) e4 _
  have hd0 : Below w.heap.size w W0 := by
    have q1 := hd.alloc hd.size (.map #[] 0)
    have q2 := q1.grown hg5 q1.size (fun k e => by cases e; exact hd.size)
    have q3 := q2.grown hg6 q2.size (fun k e => by cases e; exact hd.size)
    exact hW0 ▸ q3.setCell hba1 _
  rw [hW0]
  have hs' : As' = s := by
    have := Vw.get_s l s
    rw [← hA.out] at this
    exact this
  subst hs'
  have HEok := hid he
  have hfin : Vw.plus (Vw.get l As') ⟨As', k, m⟩ = ⟨As', sm, Ac + 1, op⟩ := by rw [← hA.out]; exact hpl.out
  replace hfin := hid hfin
  clear hW0 e1 e2 e3 e4 hg5 hg6 ho5 ho6 hlk LK hd g0 g1 g2 g3 g4 g5 g6 d1 d2 d3 d4 hwf s5 hsm hpl p1 a1 z1 z2 z3 z4 hx0 hx1 hx2 hop
  have k0 : W0.cell? ⟨w.heap.size, 0, none⟩ = some (.int .i64 u) := blk_cell c1
  have k1 : W0.cell? ⟨w.heap.size, 1, none⟩ = some (.slice a n cap) := blk_cell c1
  have z1 := blk_lt c1
  have z2 := blk_lt c2
  have z3 := blk_lt c3
  have z4 := blk_lt c4
  have c5 := blk_new W0 (.cells #[.int .i64 (u + 1), .slice none 0 0] 24)
  have hOs : OT W0 (W0.alloc (.cells #[.int .i64 (u + 1), .slice none 0 0] 24)) none W0.heap.size 31 4 (.slice none 0 0) 0 [] := OT.fresh (World.ownsRow_nil _ _ _ _) ((Below.refl _ _).alloc (Nat.le_refl _) _) (Nat.le_refl _)
  have k2 : (W0.alloc (.cells #[.int .i64 (u + 1), .slice none 0 0] 24)).cell? ⟨w.heap.size, 1, none⟩ = some (.slice a n cap) := blk_cell (blk_old c1)
  go_upto_region 18 with (fail)
  go_loopg [10, 67] n (fun g dn i wr => ∃ (k : Nat) (done : Bool) (v : Value) (L : List Vw.Acc), g = n - k ∧ k ≤ n ∧ i = .int .i64 (k : Int) ∧ dn = .bool done ∧ wr.heap[W0.heap.size]? = some (.cells #[.int .i64 (u + 1), v] 24 (0, 0)) ∧
    OT W0 wr none W0.heap.size 31 4 v L.length (acCells L) ∧ (∀ e ∈ L, e.s.size ≤ maxLen) ∧ Hid (Vw.Ri ⟨As', sm, Ac + 1, op⟩ l k done L))
  case atStart => exact ⟨0, false, _, [], rfl, by omega, rfl, rfl, c5, hOs, (fun e h => by cases h), hid (Vw.Ri.start _ _)⟩
  case round =>
    obtain ⟨kk, done, v, L, rfl, hkk, rfl, rfl, x0, hO, hLok, HRi⟩ := hrel
    clear k0 k1 k2 c5 hOs
    have hB : Below W0.heap.size W0 wr := hO.belowOf (Nat.le_refl _) (fun k e => by cases e)
    have hBs := hB.size
    have b2 := blk_below c2 hB
    have b4 := blk_below c4 hB
    have hL : L.length ≤ 151 := by
      have := HRi.out.len (by rw [hcn.out]; exact hkk)
      rw [hcn.out] at this
      omega
    have hne := own_blk_ne hO.own x0 (by decide)
    obtain ⟨va, vc, rfl, hvs⟩ := own_sl hO.own
    by_cases hlt : kk < n
    · have hkl : kk < l.length := by rw [hcn.out]; exact hlt
      obtain ⟨b, off, rfl, _⟩ := h.sl.addr (by omega)
      obtain ⟨q0, q1, q2, q3⟩ := (h.below (bnext hd0 hB)).at kk hkl
      have hok := h.ok _ (List.getElem_mem hkl)
      obtain ⟨ac, hac⟩ : ∃ ac, l[kk] = ac := ⟨_, rfl⟩
      have HA1 := hid (fun (R : Vw.Ri ⟨As', sm, Ac + 1, op⟩ l kk true L) => R.after hkl)
      have HB1 := hid (fun (R : Vw.Ri ⟨As', sm, Ac + 1, op⟩ l kk false L) => R.below hkl)
      have HC1 := hid (fun (R : Vw.Ri ⟨As', sm, Ac + 1, op⟩ l kk false L) => R.same hkl hG.out.up)
      have HD1 := hid (fun (R : Vw.Ri ⟨As', sm, Ac + 1, op⟩ l kk false L) => R.new hkl hG.out.up)
      rw [hac] at q0 q1 q2 q3 HA1 HB1 HC1 HD1 hok
      replace hac := hid hac
      obtain ⟨t, mm, cc, oo⟩ := ac
      have i0 : (0 : Int) ≤ (kk : Int) := by omega
      have i1 : (kk : Int) < (n : Int) := by omega
      have X0 := blk_old (o' := .cells #[.string t, .int .i64 mm, .int .i64 cc, .bool oo] 31) x0
      have X2 := blk_old (o' := .cells #[.string t, .int .i64 mm, .int .i64 cc, .bool oo] 31) b2
      have X4 := blk_old (o' := .cells #[.string t, .int .i64 mm, .int .i64 cc, .bool oo] 31) b4
      have X5 := blk_new wr (.cells #[.string t, .int .i64 mm, .int .i64 cc, .bool oo] 31)
      have hO1 := hO.alloc (.cells #[.string t, .int .i64 mm, .int .i64 cc, .bool oo] 31)
      have hn5 : (Value.slice va L.length vc).ownBlock ≠ some wr.heap.size := fun e => absurd (hO.own.lt _ e).2 (Nat.lt_irrefl _)
      have hn5' : some wr.heap.size ≠ (Value.slice va L.length vc).ownBlock := fun e => hn5 e.symm
      have o0 := blk_cell (i := 0) X0
      have o1 := blk_cell (i := 1) X0
      have o2 := blk_cell (i := 0) X2
      have o3 := blk_cell (i := 0) X4
      have o4 := blk_cell (i := 1) X4
      have o5 := blk_cell (i := 2) X4
      have o6 := blk_cell (i := 3) X4
      have y1 : w.heap.size + 1 < wr.heap.size := by omega
      have y2 : W0.heap.size < wr.heap.size := blk_lt x0
      have y3 : ba < wr.heap.size := by omega
      have y4 : W0.heap.size ≠ wr.heap.size := by omega
      have y5 : wr.heap.size ≠ W0.heap.size := by omega
      cases done with
      | true =>
        obtain ⟨hts, HR2⟩ := HA1.out HRi.out
        replace HR2 := hid HR2
        have e1 : (t.toList == As'.toList) = false := by rw [str_list, decide_eq_false hts]
        clear hts HA1 HB1 HC1 HD1 HRi
        go_wp2_with (at_builtin; refine wpList_append_acc rfl (.tmp 92) (.tmp 94) rfl W0.heap.size _ L ⟨t, mm, cc, oo⟩ (wr.heap.size + 1) rfl hO1 rfl (src_acc _ ⟨t, mm, cc, oo⟩ (by simp)) hL (by simp; omega) ?_; intro v5 w5 ow5 gw5; obtain ⟨a5, c5, rfl, _⟩ := own_sl ow5.own; obtain ⟨r0, r1, r2⟩ := ap_done hO1 X0 (Nat.le_refl _) ow5 gw5; have r3 := blk_cell (i := 1) r0; have r4 := blk_free (i := 1) r0)
        go_roundg (n - (kk + 1))
        case measure => omega
        case rel => exact ⟨kk + 1, true, _, _, rfl, by omega, by go_num, rfl, r1, by rw [List.length_append]; exact r2, ok_snoc hLok hok, HR2⟩
      | false =>
        by_cases hlt : Evt.lst t < Evt.lst As'
        · obtain ⟨hts, HR2⟩ := HB1.out HRi.out hlt
          replace HR2 := hid HR2
          have e0 : Op.bytesLess t.toList As'.toList = true := by rw [less_str, decide_eq_true hlt]
          have e1 : (t.toList == As'.toList) = false := by rw [str_list, decide_eq_false hts]
          clear hts HA1 HB1 HC1 HD1 HRi hlt
          go_wp2_with (at_builtin; refine wpList_append_acc rfl (.tmp 92) (.tmp 94) rfl W0.heap.size _ L ⟨t, mm, cc, oo⟩ (wr.heap.size + 1) rfl hO1 rfl (src_acc _ ⟨t, mm, cc, oo⟩ (by simp)) hL (by simp; omega) ?_; intro v5 w5 ow5 gw5; obtain ⟨a5, c5, rfl, _⟩ := own_sl ow5.own; obtain ⟨r0, r1, r2⟩ := ap_done hO1 X0 (Nat.le_refl _) ow5 gw5; have r3 := blk_cell (i := 1) r0; have r4 := blk_free (i := 1) r0)
          go_roundg (n - (kk + 1))
          case measure => omega
          case rel => exact ⟨kk + 1, false, _, _, rfl, by omega, by go_num, rfl, r1, by rw [List.length_append]; exact r2, ok_snoc hLok hok, HR2⟩
        · have e0 : Op.bytesLess t.toList As'.toList = false := by rw [less_str, decide_eq_false hlt]
          go_upto_region 23 with (at_builtin; refine wpList_append_acc rfl (.tmp 81) (.tmp 83) rfl W0.heap.size _ L ⟨As', sm, Ac + 1, op⟩ (wr.heap.size + 1) rfl hO1 rfl (src_acc _ ⟨As', sm, Ac + 1, op⟩ (by simp)) hL (by simp; omega) ?_; intro v5 w5 ow5 gw5; obtain ⟨a5, c5, rfl, _⟩ := own_sl ow5.own; obtain ⟨r0, r1, r2⟩ := ap_done hO1 X0 (Nat.le_refl _) ow5 gw5; have r3 := blk_cell (i := 1) r0; have r4 := blk_free (i := 1) r0)
          have hB5 : Below W0.heap.size W0 w5 := ow5.belowOf (Nat.le_refl _) (fun k e => by cases e)
          have m2 := blk_keep (i := 1) (g := W0.heap.size) (blk_below c2 hB5) (by omega) (.slice a5 (L.length + 1) c5)
          have m5 : w5.heap[wr.heap.size]? = some (.cells #[.string t, .int .i64 mm, .int .i64 cc, .bool oo] 31 (0, 0)) := by
            rw [gw5.block wr.heap.size (by simp; omega) hn5']
            exact blk_old X5
          replace m5 := blk_keep (i := 1) (g := W0.heap.size) m5 y5 (.slice a5 (L.length + 1) c5)
          generalize w5.setCell ⟨W0.heap.size, 1, none⟩ (.slice a5 (L.length + 1) c5) = W5 at *
          clear gw5 r0 r3 r4 o0 o1 o2 o3 o4 o5 o6 X0 X2 X4 X5 hO1 hO hvs ow5 hB5 q0 q1 q2 q3 b2 b4 x0
          have o0 := blk_cell (i := 0) r1
          have o1 := blk_cell (i := 1) r1
          have o2 := blk_cell (i := 0) m2
          have o3 := blk_cell (i := 0) m5
          have o4 := blk_cell (i := 1) m5
          have o5 := blk_cell (i := 2) m5
          have o6 := blk_cell (i := 3) m5
          by_cases hts : t = As'
          · have HR2 := hid (HC1.out HRi.out hts)
            have e1 : (t.toList == As'.toList) = true := by rw [str_list, decide_eq_true hts]
            clear HA1 HB1 HC1 HD1 HRi hlt
            replace hts := hid hts
            go_wp2_with fail
            go_roundg (n - (kk + 1))
            case measure => omega
            case rel => exact ⟨kk + 1, true, _, _, rfl, by omega, by go_num, rfl, r1, by rw [List.length_append]; exact r2, ok_snoc hLok HEok.out, HR2⟩
          · have HR2 := hid (HD1.out HRi.out hlt hts)
            have e1 : (t.toList == As'.toList) = false := by rw [str_list, decide_eq_false hts]
            clear HA1 HB1 HC1 HD1 HRi hlt hts
            have hW5s := blk_lt r1
            go_wp2_with (at_builtin; refine wpList_append_acc2 rfl (.tmp 92) (.tmp 94) rfl W0.heap.size _ (L ++ [⟨As', sm, Ac + 1, op⟩]) ⟨t, mm, cc, oo⟩ W5.heap.size (L.length + 1) rfl r2 rfl (src_acc _ ⟨t, mm, cc, oo⟩ rfl) (by omega) (by omega) ?_; intro v6 w6 ow6 gw6; obtain ⟨a6, c6, rfl, _⟩ := own_sl ow6.own; obtain ⟨t0, t1, t2⟩ := ap_done r2 r1 (Nat.le_refl _) ow6 gw6; have t3 := blk_cell (i := 1) t0; have t4 := blk_free (i := 1) t0)
            go_roundg (n - (kk + 1))
            case measure => omega
            case rel => exact ⟨kk + 1, true, _, _, rfl, by omega, by go_num, rfl, t1, by rw [List.length_append, List.length_append]; exact t2, ok_snoc (ok_snoc hLok HEok.out) hok, HR2⟩
    · obtain rfl : kk = n := by omega
      have htot := hcn.out
      have hr2 : w.heap.size + 1 + 1 ≠ W0.heap.size := by omega
      have hr3 : W0.heap.size ≠ w.heap.size + 1 + 1 := by omega
      have b3 := blk_below c3 hB
      have hbw := bnext hd0 hB
      have c3' := c3
      clear c1 c2 c3 b2
      cases done with
      | true =>
        have hfi : L = Vw.ins ⟨As', sm, Ac + 1, op⟩ l := by
          have := HRi.out
          rw [← htot] at this
          exact this.stop
        have hne3 := own_blk_ne hO.own b3 (by decide)
        have t1 := blk_cell (i := 0) b3
        have t2 := blk_cell (i := 1) b3
        have t3 : ∀ j, wr.frozen? ⟨w.heap.size + 1 + 1, j, none⟩ = false := fun j => blk_free b3
        have t4 := blk_cell (i := 0) x0
        have t5 := blk_cell (i := 1) x0
        replace hfi := hid hfi
        go_wp2_with fail
        have ow2 := ownsRow_setCell_other (a := ⟨w.heap.size + 1 + 1, 1, none⟩) (ownsRow_setCell_other (a := ⟨w.heap.size + 1 + 1, 0, none⟩) hO.own hne3 (.int .i64 (u + 1))) hne3 (.slice va L.length vc)
        obtain ⟨a', cap', e, hs⟩ := own_sl ow2
        cases e
        refine bodyPost_ret (v := .tuple #[.agg #[.int .i64 (u + 1), .slice va L.length vc], .int .i64 0]) (by simp [results, Try.results19, go_sem, t1, t2]) rfl ⟨_, _, _, rfl, ?_, (hbw.setCell (by show w.heap.size ≤ w.heap.size + 1 + 1; omega) _).setCell (by show w.heap.size ≤ w.heap.size + 1 + 1; omega) _⟩
        show As _ _ _ _ (Vw.ins (Vw.plus (Vw.get l As') ⟨As', k, m⟩) l)
        rw [hfin.out, ← hfi.out]
        exact ⟨hs, hLok⟩
      | false =>
        have hfi : L ++ [⟨As', sm, Ac + 1, op⟩] = Vw.ins ⟨As', sm, Ac + 1, op⟩ l := by
          have := HRi.out
          rw [← htot] at this
          exact this.last
        replace hfi := hid hfi
        have o0 := blk_cell (i := 0) x0
        have o1 := blk_cell (i := 1) x0
        have o3 := blk_cell (i := 0) b4
        have o4 := blk_cell (i := 1) b4
        have o5 := blk_cell (i := 2) b4
        have o6 := blk_cell (i := 3) b4
        go_upto_region 28 with (at_builtin; refine wpList_append_acc rfl (.tmp 101) (.tmp 103) rfl W0.heap.size _ L ⟨As', sm, Ac + 1, op⟩ wr.heap.size rfl hO rfl (src_acc _ ⟨As', sm, Ac + 1, op⟩ rfl) hL (by omega) ?_; intro v5 w5 ow5 gw5; obtain ⟨a5, c5, rfl, _⟩ := own_sl ow5.own; obtain ⟨r0, r1, r2⟩ := ap_done hO x0 (Nat.le_refl _) ow5 gw5; have r3 := blk_cell (i := 1) r0; have r4 := blk_free (i := 1) r0)
        have hB5 : Below W0.heap.size W0 w5 := ow5.belowOf (Nat.le_refl _) (fun k e => by cases e)
        have m3 := blk_keep (i := 1) (g := W0.heap.size) (blk_below c3' hB5) hr2 (.slice a5 (L.length + 1) c5)
        have hbw5 := (bnext hd0 hB5).setCell (p := ⟨W0.heap.size, 1, none⟩) hd0.size (.slice a5 (L.length + 1) c5)
        generalize w5.setCell ⟨W0.heap.size, 1, none⟩ (.slice a5 (L.length + 1) c5) = W5 at *
        clear gw5 r0 r3 r4 o0 o1 o3 o4 o5 o6 hO hvs ow5 hB5 x0 b3
        have hne3 := own_blk_ne r2.own m3 (by decide)
        have t1 := blk_cell (i := 0) m3
        have t2 := blk_cell (i := 1) m3
        have t3 : ∀ j, W5.frozen? ⟨w.heap.size + 1 + 1, j, none⟩ = false := fun j => blk_free m3
        have t4 := blk_cell (i := 0) r1
        have t5 := blk_cell (i := 1) r1
        go_wp2_with fail
        have ow2 := ownsRow_setCell_other (a := ⟨w.heap.size + 1 + 1, 1, none⟩) (ownsRow_setCell_other (a := ⟨w.heap.size + 1 + 1, 0, none⟩) r2.own hne3 (.int .i64 (u + 1))) hne3 (.slice a5 (L.length + 1) c5)
        obtain ⟨a', cap', e, hs⟩ := own_sl ow2
        cases e
        refine bodyPost_ret (v := .tuple #[.agg #[.int .i64 (u + 1), .slice a5 (L.length + 1) c5], .int .i64 0]) (by simp [results, Try.results19, go_sem, t1, t2]) rfl ⟨_, _, _, rfl, ?_, (hbw5.setCell (by show w.heap.size ≤ w.heap.size + 1 + 1; omega) _).setCell (by show w.heap.size ≤ w.heap.size + 1 + 1; omega) _⟩
        show As _ _ _ _ (Vw.ins (Vw.plus (Vw.get l As') ⟨As', k, m⟩) l)
        rw [hfin.out, ← hfi.out]
        exact ⟨hs, ok_snoc hLok HEok.out⟩
theorem rApply_call (u : Int) (a : Option Addr) (n cap : Nat) (l : List Vw.Acc) (e : Evt.Ev) (w : World) (h : As w a n cap l) (he : e.s.size ≤ maxLen) :
    Calls Try.prog 19 #[viVal u a n cap, evVal e] w (VAns (Vw.apply ⟨u, l⟩ e) w) := by
  unfold Vw.apply
  by_cases h1 : (Vw.wrongV ⟨u, l⟩).1 ≠ 0
  · rw [if_pos h1]; exact rApply_a u a n cap l e w h h1
  · rw [if_neg h1]
    have h1 : (Vw.wrongV ⟨u, l⟩).1 = 0 := Classical.byContradiction h1
    by_cases h2 : Evt.wrongEv e ≠ 0
    · rw [if_pos h2]; exact rApply_b u a n cap l e w h he h1 h2
    · rw [if_neg h2]
      have h2 : Evt.wrongEv e = 0 := Classical.byContradiction h2
      by_cases h3 : u = 150
      · rw [if_pos h3]
        subst h3
        exact rApply_c a n cap l e w h he h1 h2
      · rw [if_neg h3]
        by_cases h4 : Vw.may (Vw.get l e.s) e = false
        · rw [if_pos h4]; exact rApply_d u a n cap l e w h he h1 h2 h3 h4
        · rw [if_neg h4]; exact rApply_e u a n cap l e w h he h1 h2 h3 (by simpa using h4)

end Go.Proofs.Ytjdgfijpmljhiaa
