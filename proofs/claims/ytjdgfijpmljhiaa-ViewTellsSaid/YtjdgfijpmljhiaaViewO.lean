/- Contract: the reference's Apply, its errors; a map of the call's own. -/
import Derived.Test.YtjdgfijpmljhiaaViewM
import Derived.Test.YtjdgfijpmljhiaaViewN
import Derived.Maps.Own
import Derived.Maps.OwnOps
import Derived.Maps.OwnSet
import Derived.Maps.Views
namespace Go.Proofs.Ytjdgfijpmljhiaa
open Go.RowKit Go.Maps
set_option linter.unusedVariables false

set_option maxHeartbeats 2000000 in
theorem rApply_a (u : Int) (a : Option Addr) (n cap : Nat) (l : List Vw.Acc) (e : Evt.Ev) (w : World) (h : As w a n cap l) (h1 : (Vw.wrongV ⟨u, l⟩).1 ≠ 0) :
    Calls Try.prog 19 #[viVal u a n cap, evVal e] w (VAns ⟨Vw.none', (Vw.wrongV ⟨u, l⟩).1⟩ w) := by
  have D := hid (fun W (hW : As W a n cap l) => rWrongView_call u a n cap l W hW)
  obtain ⟨s, k, m⟩ := e
  obtain ⟨E, hE⟩ : ∃ E, E = Vw.wrongV ⟨u, l⟩ := ⟨_, rfl⟩
  rw [← hE] at h1 ⊢
  rw [← hE] at D
  clear hE
  obtain ⟨E1, E2⟩ := E
  unfold viVal evVal
  unfold viVal fVal' at D
  simp only at h1 D ⊢
  have t0 : (E1 != 0) = true := bne_iff_ne.2 h1
  replace h1 := hid h1
  go_enter Try.func19, Try.ntmps19
  go_wp2_with fail
  go_at_call 12; refine (D.out _ (((h.alloc _).alloc _).alloc _)).mono ?_; rintro e w1 ⟨rfl, b1⟩
  obtain ⟨v1, v2, v3, hs1, hb⟩ := three_blk w _ _ _ w1 b1
  have z1 : w.heap.size + 1 + 1 ≠ w1.heap.size := by omega
  have z2 : w1.heap.size ≠ w.heap.size + 1 + 1 := by omega
  have r0 : w1.cell? ⟨w.heap.size + 1 + 1, 0, none⟩ = some (.int .i64 0) := blk_cell v3
  have r1 : w1.cell? ⟨w.heap.size + 1 + 1, 1, none⟩ = some (.slice none 0 0) := blk_cell v3
  have f0 : w1.frozen? ⟨w.heap.size + 1 + 1, 0, none⟩ = false := blk_free v3
  have f1 : w1.frozen? ⟨w.heap.size + 1 + 1, 1, none⟩ = false := blk_free v3
  clear b1
  go_wp2_with fail
  go_region
  go_wp2_with fail
  obtain ⟨q0, q1, q2⟩ := res_twoD hb (by omega) v3 (.int .i64 0) (.slice none 0 0) (.cells #[.int .i64 E1, .int .i64 E2] 28)
  exact bodyPost_ret (v := .tuple #[.agg #[.int .i64 0, .slice none 0 0], .int .i64 E1]) (by simp [results, Try.results19, go_sem, q0, q1]) rfl (vans_bad q2)
set_option maxHeartbeats 2000000 in
theorem rApply_b (u : Int) (a : Option Addr) (n cap : Nat) (l : List Vw.Acc) (e : Evt.Ev) (w : World) (h : As w a n cap l) (he : e.s.size ≤ maxLen) (h1 : (Vw.wrongV ⟨u, l⟩).1 = 0) (h2 : Evt.wrongEv e ≠ 0) :
    Calls Try.prog 19 #[viVal u a n cap, evVal e] w (VAns ⟨Vw.none', Evt.wrongEv e⟩ w) := by
  have D := hid (fun W (hW : As W a n cap l) => rWrongView_call u a n cap l W hW)
  have D2 := hid (fun W => rWrongEvent_call e he W)
  obtain ⟨s, k, m⟩ := e
  obtain ⟨E, hE⟩ : ∃ E, E = Vw.wrongV ⟨u, l⟩ := ⟨_, rfl⟩
  rw [← hE] at h1 D
  clear hE
  obtain ⟨E1, E2⟩ := E
  obtain ⟨K, hK⟩ : ∃ K, K = Evt.wrongEv ⟨s, k, m⟩ := ⟨_, rfl⟩
  rw [← hK] at h2 D2 ⊢
  replace hK := hid hK
  have h1 : E1 = 0 := h1
  subst h1
  unfold viVal evVal
  unfold viVal fVal' at D
  unfold evVal at D2
  simp only at D D2 ⊢
  have t0 : (K != 0) = true := bne_iff_ne.2 h2
  replace h2 := hid h2
  go_enter Try.func19, Try.ntmps19
  go_wp2_with fail
  go_at_call 12; refine (D.out _ (((h.alloc _).alloc _).alloc _)).mono ?_; rintro e w1 ⟨rfl, b1⟩
  obtain ⟨v1, v2, v3, hs1, hb⟩ := three_blk w _ _ _ w1 b1
  clear b1
  have r0 : (w1.alloc (.cells #[.int .i64 0, .int .i64 E2] 28)).cell? ⟨w.heap.size + 1, 0, none⟩ = some (.string s) := blk_cell (blk_old v2)
  have r1 : (w1.alloc (.cells #[.int .i64 0, .int .i64 E2] 28)).cell? ⟨w.heap.size + 1, 1, none⟩ = some (.int .i64 k) := blk_cell (blk_old v2)
  have r2 : (w1.alloc (.cells #[.int .i64 0, .int .i64 E2] 28)).cell? ⟨w.heap.size + 1, 2, none⟩ = some (.int .i64 m) := blk_cell (blk_old v2)
  go_wp2_with fail
  go_at_call 15; refine (D2.out _).mono ?_; rintro e w2 ⟨rfl, b2⟩
  replace v3 := call_blk v3 b2
  replace hb := call_below hb b2
  clear b2 r0 r1 r2 v1 v2
  have q0 : w2.cell? ⟨w.heap.size + 1 + 1, 0, none⟩ = some (.int .i64 0) := blk_cell v3
  have q1 : w2.cell? ⟨w.heap.size + 1 + 1, 1, none⟩ = some (.slice none 0 0) := blk_cell v3
  have f0 : w2.frozen? ⟨w.heap.size + 1 + 1, 0, none⟩ = false := blk_free v3
  have f1 : w2.frozen? ⟨w.heap.size + 1 + 1, 1, none⟩ = false := blk_free v3
  go_wp2_with fail
  obtain ⟨q0, q1, q2⟩ := res_two hb (by omega) v3 (.int .i64 0) (.slice none 0 0)
  exact bodyPost_ret (v := .tuple #[.agg #[.int .i64 0, .slice none 0 0], .int .i64 K]) (by simp [results, Try.results19, go_sem, q0, q1]) rfl (vans_bad q2)
set_option maxHeartbeats 2000000 in
theorem rApply_c (a : Option Addr) (n cap : Nat) (l : List Vw.Acc) (e : Evt.Ev) (w : World) (h : As w a n cap l) (he : e.s.size ≤ maxLen) (h1 : (Vw.wrongV ⟨150, l⟩).1 = 0) (h2 : Evt.wrongEv e = 0) :
    Calls Try.prog 19 #[viVal 150 a n cap, evVal e] w (VAns ⟨Vw.none', 5⟩ w) := by
  have D := hid (fun W (hW : As W a n cap l) => rWrongView_call 150 a n cap l W hW)
  have D2 := hid (fun W => rWrongEvent_call e he W)
  rw [h2] at D2
  replace h2 := hid h2
  obtain ⟨s, k, m⟩ := e
  obtain ⟨E, hE⟩ : ∃ E, E = Vw.wrongV ⟨150, l⟩ := ⟨_, rfl⟩
  rw [← hE] at h1 D
  clear hE
  obtain ⟨E1, E2⟩ := E
  have h1 : E1 = 0 := h1
  subst h1
  unfold viVal evVal
  unfold viVal fVal' at D
  unfold evVal at D2
  simp only at D D2 ⊢
  go_enter Try.func19, Try.ntmps19
  go_wp2_with fail
  go_at_call 12; refine (D.out _ (((h.alloc _).alloc _).alloc _)).mono ?_; rintro e w1 ⟨rfl, b1⟩
  obtain ⟨v1, v2, v3, hs1, hb⟩ := three_blk w _ _ _ w1 b1
  clear b1
  have r0 : (w1.alloc (.cells #[.int .i64 0, .int .i64 E2] 28)).cell? ⟨w.heap.size + 1, 0, none⟩ = some (.string s) := blk_cell (blk_old v2)
  have r1 : (w1.alloc (.cells #[.int .i64 0, .int .i64 E2] 28)).cell? ⟨w.heap.size + 1, 1, none⟩ = some (.int .i64 k) := blk_cell (blk_old v2)
  have r2 : (w1.alloc (.cells #[.int .i64 0, .int .i64 E2] 28)).cell? ⟨w.heap.size + 1, 2, none⟩ = some (.int .i64 m) := blk_cell (blk_old v2)
  go_wp2_with fail
  go_at_call 15; refine (D2.out _).mono ?_; rintro e w2 ⟨rfl, b2⟩
  replace v1 := call_blk v1 b2
  replace v3 := call_blk v3 b2
  replace hb := call_below hb b2
  clear b2 r0 r1 r2 v2
  have p0 : w2.cell? ⟨w.heap.size, 0, none⟩ = some (.int .i64 150) := blk_cell v1
  have q0 : w2.cell? ⟨w.heap.size + 1 + 1, 0, none⟩ = some (.int .i64 0) := blk_cell v3
  have q1 : w2.cell? ⟨w.heap.size + 1 + 1, 1, none⟩ = some (.slice none 0 0) := blk_cell v3
  have f0 : w2.frozen? ⟨w.heap.size + 1 + 1, 0, none⟩ = false := blk_free v3
  have f1 : w2.frozen? ⟨w.heap.size + 1 + 1, 1, none⟩ = false := blk_free v3
  go_wp2_with fail
  obtain ⟨q0, q1, q2⟩ := res_two hb (by omega) v3 (.int .i64 0) (.slice none 0 0)
  exact bodyPost_ret (v := .tuple #[.agg #[.int .i64 0, .slice none 0 0], .int .i64 5]) (by simp [results, Try.results19, go_sem, q0, q1]) rfl (vans_bad q2)
set_option maxHeartbeats 2000000 in
theorem rApply_d (u : Int) (a : Option Addr) (n cap : Nat) (l : List Vw.Acc) (e : Evt.Ev) (w : World) (h : As w a n cap l) (he : e.s.size ≤ maxLen) (h1 : (Vw.wrongV ⟨u, l⟩).1 = 0) (h2 : Evt.wrongEv e = 0) (h3 : u ≠ 150) (h4 : Vw.may (Vw.get l e.s) e = false) :
    Calls Try.prog 19 #[viVal u a n cap, evVal e] w (VAns ⟨Vw.none', 8⟩ w) := by
  have D := hid (fun W (hW : As W a n cap l) => rWrongView_call u a n cap l W hW)
  have D2 := hid (fun W => rWrongEvent_call e he W)
  have D3 := hid (fun W (hW : As W a n cap l) => rGet_call u a n cap l e.s W hW)
  have D4 := hid (fun W => rMay_call (Vw.get l e.s) e W)
  have hgu : u ≤ 150 := ((Vw.wrongV_good ⟨u, l⟩).1 h1).hi
  rw [h2] at D2
  rw [h4] at D4
  replace h2 := hid h2
  replace h4 := hid h4
  obtain ⟨s, k, m⟩ := e
  simp only at D3 D4
  obtain ⟨A, hA⟩ : ∃ A, A = Vw.get l s := ⟨_, rfl⟩
  rw [← hA] at D3 D4
  replace hA := hid hA
  obtain ⟨As', Am, Ac, Ao⟩ := A
  obtain ⟨E, hE⟩ : ∃ E, E = Vw.wrongV ⟨u, l⟩ := ⟨_, rfl⟩
  rw [← hE] at h1 D
  clear hE
  obtain ⟨E1, E2⟩ := E
  have h1 : E1 = 0 := h1
  subst h1
  unfold viVal evVal
  unfold viVal fVal' at D
  unfold evVal at D2 D4
  unfold acVal at D3 D4
  unfold viVal at D3
  simp only at D D2 D3 D4 ⊢
  have hu150 : ¬ 150 ≤ u := by omega
  clear h3
  go_enter Try.func19, Try.ntmps19
  go_wp2_with fail
  go_at_call 12; refine (D.out _ (((h.alloc _).alloc _).alloc _)).mono ?_; rintro e w1 ⟨rfl, b1⟩
  obtain ⟨v1, v2, v3, hs1, hb⟩ := three_blk w _ _ _ w1 b1
  clear b1
  have r0 : (w1.alloc (.cells #[.int .i64 0, .int .i64 E2] 28)).cell? ⟨w.heap.size + 1, 0, none⟩ = some (.string s) := blk_cell (blk_old v2)
  have r1 : (w1.alloc (.cells #[.int .i64 0, .int .i64 E2] 28)).cell? ⟨w.heap.size + 1, 1, none⟩ = some (.int .i64 k) := blk_cell (blk_old v2)
  have r2 : (w1.alloc (.cells #[.int .i64 0, .int .i64 E2] 28)).cell? ⟨w.heap.size + 1, 2, none⟩ = some (.int .i64 m) := blk_cell (blk_old v2)
  go_wp2_with fail
  go_at_call 15; refine (D2.out _).mono ?_; rintro e w2 ⟨rfl, b2⟩
  replace v1 := call_blk v1 b2
  replace v2 := call_blk v2 b2
  replace v3 := call_blk v3 b2
  replace hb := call_below hb b2
  clear b2 r0 r1 r2
  have p0 : w2.cell? ⟨w.heap.size, 0, none⟩ = some (.int .i64 u) := blk_cell v1
  have p1 : w2.cell? ⟨w.heap.size, 1, none⟩ = some (.slice a n cap) := blk_cell v1
  have p2 : w2.cell? ⟨w.heap.size + 1, 0, none⟩ = some (.string s) := blk_cell v2
  go_wp2_with fail
  go_at_call 14; refine (D3.out _ (h.below hb)).mono ?_; rintro e w3 ⟨rfl, b3⟩
  replace v2 := blk_below v2 b3
  replace v3 := blk_below v3 b3
  replace hb := bnext hb b3
  clear b3 p0 p1 p2
  have r0 : (w3.alloc (.cells #[.string As', .int .i64 Am, .int .i64 Ac, .bool Ao] 31)).cell? ⟨w.heap.size + 1, 0, none⟩ = some (.string s) := blk_cell (blk_old v2)
  have r1 : (w3.alloc (.cells #[.string As', .int .i64 Am, .int .i64 Ac, .bool Ao] 31)).cell? ⟨w.heap.size + 1, 1, none⟩ = some (.int .i64 k) := blk_cell (blk_old v2)
  have r2 : (w3.alloc (.cells #[.string As', .int .i64 Am, .int .i64 Ac, .bool Ao] 31)).cell? ⟨w.heap.size + 1, 2, none⟩ = some (.int .i64 m) := blk_cell (blk_old v2)
  go_wp2_with fail
  go_at_call 17; refine (D4.out _).mono ?_; rintro e w4 ⟨rfl, b4⟩
  replace v3 := call_blk v3 b4
  replace hb := call_below hb b4
  clear b4 r0 r1 r2 v2
  have q0 : w4.cell? ⟨w.heap.size + 1 + 1, 0, none⟩ = some (.int .i64 0) := blk_cell v3
  have q1 : w4.cell? ⟨w.heap.size + 1 + 1, 1, none⟩ = some (.slice none 0 0) := blk_cell v3
  have f0 : w4.frozen? ⟨w.heap.size + 1 + 1, 0, none⟩ = false := blk_free v3
  have f1 : w4.frozen? ⟨w.heap.size + 1 + 1, 1, none⟩ = false := blk_free v3
  go_wp2_with fail
  obtain ⟨q0, q1, q2⟩ := res_two hb (by omega) v3 (.int .i64 0) (.slice none 0 0)
  exact bodyPost_ret (v := .tuple #[.agg #[.int .i64 0, .slice none 0 0], .int .i64 8]) (by simp [results, Try.results19, go_sem, q0, q1]) rfl (vans_bad q2)

theorem wpList_insert_own {H : Type} {P : Program} (w : World) {ops : Array Oper} {rest : List Oper} {o : Oper} {a : Act} {Q : Exit → Act → World → Prop}
    (hg : o.guard = none) (m x v : Operand) (t : TypeId) (hop : o.op = Op.insert t m x v)
    (k e : TypeId) (K : Keyed P k) (ht : P.underlying t = some (.map k e)) (R : Value → Option (DataW H × List MemPlace)) (b n : Nat) (D : DataW H)
    (hm : a.eval m = .map (some b)) (hown : w.ownsMap P k R b n D) (hn : n < maxLen) (key val : Value) (kl : Lit) (hx : a.eval x = key) (hv : a.eval v = val) (hkey : keyOf P k key = some kl)
    (d : DataW H) (ps : List MemPlace) (hval : R val = some (d, ps))
    (hK : ∀ w', w'.ownsMap P k R b (n + 1) (D.put kl d) → w.grownBy w' (some b) → wpList P ops Q rest (a.put o.dst undef) w') :
    wpList P ops Q (o :: rest) a w := by
  refine wpList_plain hg fun K' hK' => ?_
  obtain ⟨w', hrun, r1, r2⟩ := hown.update K ht hn hkey hval
  unfold Oper.wp
  simp [execOp, hop, hm, hx, hv, hrun, Result.andThen]
  exact hK' _ _ (hK w' r1 r2)
def sgn (k : Int) : Int := if k = 2 then 1 else if k = 3 then -1 else 0
set_option maxRecDepth 100000 in
theorem plainElem_int_inv {v : Value} {z : DataW Unit × List MemPlace} (h : (plainElem (H := Unit) Try.prog 3) v = some z) : ∃ x, v = .int .i64 x ∧ z = (.lit (.int .i64 x), []) := by
  unfold plainElem at h
  rw [Try.underlying3] at h
  cases v <;> simp at h
  obtain ⟨⟨rfl, _⟩, rfl⟩ := h
  exact ⟨_, rfl, rfl⟩
theorem int_key (k : Int) (h : (Lit.int .i64 k).wf = true) : keyOf Try.prog 3 (.int .i64 k) = some (.int .i64 k) := keyOf_int_mk Try.underlying3 h
/-- the map 2: 1, 3: -1 -/
theorem sgn_look {w : World} {b : Nat} (h : w.ownsMap Try.prog 3 (plainElem (H := Unit) Try.prog 3) b 2 (((DataW.map []).put (.int .i64 2) (.lit (.int .i64 1))).put (.int .i64 3) (.lit (.int .i64 (-1))))) (k : Int) (hk : (Lit.int .i64 k).wf = true) :
    (Instr.lookup 72 (.map (some b)) (.int .i64 k) false).run Try.prog w = .ok (.int .i64 (sgn k)) w := by
  obtain ⟨v, ps, hrun, hv⟩ := h.lookup (int_keyed Try.underlying3) Try.underlying72 (z := .int .i64 0) (by kernel_rfl) (plainElem_int Try.underlying3 (by decide)) (int_key k hk)
  obtain ⟨x, rfl, e⟩ := plainElem_int_inv hv
  have e1 := congrArg Prod.fst e
  simp only at e1
  rw [hrun]
  have : DataW.atKey (((DataW.map []).put (.int .i64 2) (.lit (.int .i64 1))).put (.int .i64 3) (.lit (.int .i64 (-1)))) (.int .i64 k) (.lit (.int .i64 0)) = (.lit (.int .i64 (sgn k)) : DataW Unit) := by
    unfold sgn
    by_cases h3 : k = 3
    · subst h3
      exact atKey_put_same (H := Unit) ⟨_, rfl⟩ (show WideAt.IsKeyLit (.int .i64 _) by trivial) _ _
    · rw [atKey_put_other (by intro e2; apply h3; injection e2 with _ e3), if_neg h3]
      by_cases h2 : k = 2
      · subst h2
        exact atKey_put_same (H := Unit) ⟨_, rfl⟩ (show WideAt.IsKeyLit (.int .i64 _) by trivial) _ _
      · rw [atKey_put_other (by intro e2; apply h2; injection e2 with _ e3), if_neg h2]
        rfl
  rw [this] at e1
  cases e1
  rfl

end Go.Proofs.Ytjdgfijpmljhiaa
