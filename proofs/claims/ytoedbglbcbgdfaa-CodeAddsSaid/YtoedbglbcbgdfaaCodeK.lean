/- Contract of the closure of CodeAdds: the sum, byte by byte, of two lists of rows. -/
import Derived.Test.YtoedbglbcbgdfaaCodeI
namespace Go.Proofs.Ytoedbglbcbgdfaa
open Go.RowKit
set_option linter.unusedVariables false
/-- 'append(out, r)', however long out is. -/
theorem wpList_append_rowL {ops : Array Oper} {rest : List Oper} {o : Oper} {a : Act} {Q : Exit → Act → World → Prop} {W : World} (hgd : o.guard = none) (s xo : Operand) (tt : TypeId) (htt : Try.prog.underlying tt = some (.slice 27))
    (ho : o.op = .call { callee := .builtin .append, args := #[s, xo], argTypes := #[tt, tt] })
    {w0 : World} {row : Option Nat} (base : Nat) (v : Value) (R : List Rw) (hs : a.eval s = v) (h : Mb w0 W row base v R) (r : Rw) (b : Nat) (hbs : W.heap.size = b) (hxe : a.eval xo = .slice (some ⟨b, 0, none⟩) 1 1)
    (hb : Bt W r.a r.n r.cap r.l) (ha : Apart v r) (hlen : (R.length + 1) * 24 ≤ 140737488355328) (hbase : base ≤ W.heap.size)
    (K : ∀ v' w', Mb w0 w' row base v' (R ++ [r]) → (W.alloc (.cells #[.slice r.a r.n r.cap] 27)).grownBy w' v.ownBlock → wpList Try.prog ops Q rest (a.put o.dst v') w') : wpList Try.prog ops Q (o :: rest) a (W.alloc (.cells #[.slice r.a r.n r.cap] 27)) := by
  subst hbs
  have h1 := h.alloc (.cells #[.slice r.a r.n r.cap] 27)
  obtain ⟨i, hi, hz, e1, e2⟩ := info_parts1 info_bytest
  have hsrc : Src Try.prog 1 tt (.slice (some ⟨W.heap.size, 0, none⟩) 1 1) 1 [.slice r.a r.n r.cap] (W.alloc (.cells #[.slice r.a r.n r.cap] 27)) := Src.ofLit W #[.slice r.a r.n r.cap] 27 1 1 htt rfl (by simp [Value.oneCell'])
  obtain ⟨v', w', hr, h3, h4, h5⟩ := run_append_lies_src (P := Try.prog) (W.alloc (.cells #[.slice r.a r.n r.cap] 27)) base tt tt o.type 27 i (.slice none 0 0) 1 24 htt hi hz e1 e2 rfl (by decide) v R.length (rwCells R) h1.own.own _ 1 _ hsrc (by unfold maxLen; omega) hlen (by simp; omega)
  have h5' : v'.ownBlock = v.ownBlock ∨ ∀ k, v'.ownBlock = some k → (W.alloc (.cells #[.slice r.a r.n r.cap] 27)).heap.size ≤ k := by
    rcases h5 with h5 | h5
    · exact .inl h5
    · exact .inr fun k hk => by rw [h5] at hk; cases hk; exact Nat.le_refl _
  refine wpList_value hgd ?_ (K v' w' (h1.more (h1.own.more h3 h4 h5') h4 h5' (hb.alloc _) ha) h4)
  unfold execOp
  simp only [ho, resolve, invoke, builtin, Sem.run_bind, Sem.run_pure, Result.andThen_ok, List.map_toArray, List.map_cons, List.map_nil, hs, hxe, hr]
/-- The sum of two rows. -/
def SumRow (x y c : List UInt8) : Prop := x.length = y.length ∧ c.length = x.length ∧ ∀ j, j < x.length → c.getD j 0 = Mat.gadd (x.getD j 0) (y.getD j 0)
/-- The sum of two lists of rows; none where two rows are not of one length. -/
def SumR (A B C : List (List UInt8)) : Prop := (C = [] ∧ ∃ i, ∃ (h : i < A.length) (h' : i < B.length), A[i].length ≠ B[i].length) ∨ (C.length = A.length ∧ ∀ i (h : i < A.length) (h' : i < B.length) (hc : i < C.length), SumRow A[i] B[i] C[i])
/-- It returns rows of which P holds; what was there is as it was. -/
def RRes (P : List (List UInt8) → Prop) (w : World) (e : Ending) (w' : World) : Prop := ∃ a n cap R, e = .returned (.slice a n cap) ∧ Ms w' a n cap R ∧ P (rwData R) ∧ Below w.heap.size w w'

set_option maxRecDepth 100000 in
set_option maxHeartbeats 4000000 in
theorem CodeAdds1_call (a b : Option Addr) (n ac bc : Nat) (A B : List Rw) (w : World) (hA : Ms w a n ac A) (hB : Ms w b n bc B) (hn : (n + 1) * 24 ≤ 140737488355328) (hm : ∀ r ∈ A, r.n ≤ 140737488355328) : Calls Try.prog 35 #[.slice a n ac, .slice b n bc] w (RRes (SumR (rwData A) (rwData B)) w) := by
  have HA := hid hA.cnt
  have HB := hid hB.cnt
  have hn62 : n ≤ 5864062014805 := by omega
  replace hn := hid hn
  replace hm := hid hm
  go_enter Try.func35, Try.ntmps35
  go_wp2_with fail
  go_loopg [5, 11] n (fun g s5 s11 wr => ∃ (k : Nat) (C : List Rw), g = n - k ∧ k ≤ n ∧ s11 = .int .i64 (k : Int) ∧ Hid (C.length = k) ∧ Mb w wr none w.heap.size s5 C ∧ Hid (∀ i (hi : i < C.length) (h : i < A.length) (h' : i < B.length), SumRow A[i].l B[i].l C[i].l))
  case atStart => exact ⟨0, [], rfl, by omega, rfl, hid rfl, Mb.nil _ _ (Below.refl _ _) _ (Nat.le_refl _), hid (fun i hi => absurd hi (by simp))⟩
  case round =>
    obtain ⟨k, C, rfl, hk, rfl, HC, hM, HS⟩ := hrel
    obtain ⟨wo, rfl⟩ : ∃ wo : World, wo = wr := ⟨_, rfl⟩
    have hbo := hM.own.belowOf (Nat.le_refl _) (fun k e => by cases e)
    have hszo := hbo.size
    by_cases hlt : k < n
    · have hkA : k < A.length := by rw [HA.out]; exact hlt
      have hkB : k < B.length := by rw [HB.out]; exact hlt
      obtain ⟨ab, aoff, rfl, _⟩ := hA.sl.addr (by omega)
      obtain ⟨bb, boff, rfl, _⟩ := hB.sl.addr (by omega)
      have hAo := hA.below hbo
      have hBo := hB.below hbo
      have x0 := (hAo.at k hkA).1
      have x1 := (hBo.at k hkB).1
      have ha := (hAo.at k hkA).2
      have hb := (hBo.at k hkB).2
      have hal := Bt.n ha
      have hbl := Bt.n hb
      have hlim : A[k].n ≤ 140737488355328 := hm.out _ (List.getElem_mem hkA)
      obtain ⟨ra, hra⟩ : ∃ ra, A[k] = ra := ⟨_, rfl⟩
      obtain ⟨rb, hrb⟩ : ∃ rb, B[k] = rb := ⟨_, rfl⟩
      rw [hra] at x0 ha hal hlim
      rw [hrb] at x1 hb hbl
      replace hra := hid hra; replace hrb := hid hrb
      obtain ⟨ra1, m, ra3, la⟩ := ra
      obtain ⟨rb1, m', rb3, lb⟩ := rb
      simp only at x0 x1 ha hb hal hbl hlim
      replace hal := hid hal; replace hbl := hid hbl
      have i0 : (0 : Int) ≤ (k : Int) := by omega
      have i1 : (k : Int) < (n : Int) := by omega
      by_cases hmm : m = m'
      · subst hmm
        go_wp2_with fail
        go_quiet (fail)
        have hMq := hM.below (below_drewN (Below.refl _ _) nq)
        have hbq := below_drewN hbo nq
        have hAq := hA.below hbq
        have hBq := hB.below hbq
        have x0 := (hAq.at k hkA).1
        have x1 := (hBq.at k hkB).1
        have ha := (hAq.at k hkA).2
        have hb := (hBq.at k hkB).2
        rw [hra.out] at x0 ha
        rw [hrb.out] at x1 hb
        simp only at x0 x1 ha hb
        obtain ⟨wq, hwq⟩ : ∃ wq, wo.drewN nq = wq := ⟨_, rfl⟩
        rw [hwq] at hMq hbq hAq hBq x0 x1 ha hb ⊢
        replace hwq := hid hwq
        have x0' : (wq.alloc (.cells #[] 5)).cell? ⟨ab, aoff + k, none⟩ = some (.slice ra1 m ra3) := (cell_old (World.block_lt_of_cell? _ _ x0)).trans x0
        go_wp2_with (refine wpList_append_ob rfl (.tmp 25) (.tmp 29) rfl wq.heap.size (.slice (some ⟨wq.heap.size, 0, none⟩) 0 0) [] la rfl (OB.lit (Below.refl _ _) _ [] (by decide) rfl) ra1 m ra3 rfl (ha.alloc _) (by simp; rw [hal.out]; exact hlim) (by simp) ?_; intro v3 w3 ho3 hg3; rw [List.nil_append] at ho3; have b3 : Below wq.heap.size wq w3 := ho3.belowOf (Nat.le_refl _) (fun k e => by cases e); have ho4 := ho3.own; rw [hal.out] at ho4; obtain ⟨sa, scap, rfl, hs3⟩ := own_sl ho4)
        have hsa : Hid (0 < m → ∃ g, sa = some ⟨g, 0, none⟩ ∧ wq.heap.size ≤ g) := hid (fun h => by
          obtain ⟨g, c', e, hg, _⟩ := own_pos ho4 h
          injection e with e1 _ _
          exact ⟨g, e1, hg⟩)
        clear hs3 ho3 hg3 x0' x0 x1 ha hb
        go_loopg [33] m (fun g s33 wr => ∃ (t : Nat) (l : List UInt8), g = m - t ∧ t ≤ m ∧ s33 = .int .i64 (t : Int) ∧ wr.ownsRow wq.heap.size 5 1 (.slice sa m scap) m (cb l) ∧ Below wq.heap.size wq wr ∧ Hid (l.length = m ∧ ∀ v, v < m → l.getD v 0 = if v < t then Mat.gadd (la.getD v 0) (lb.getD v 0) else la.getD v 0))
        case atStart => exact ⟨0, la, rfl, by omega, rfl, ho4, b3, hid ⟨hal.out, fun v _ => by rw [if_neg (by omega)]⟩⟩
        case round =>
          clear ho4 b3
          obtain ⟨t, l, rfl, ht, rfl, hO, hB2, HJ⟩ := hrel
          obtain ⟨V, rfl⟩ : ∃ V : World, V = wr := ⟨_, rfl⟩
          by_cases htm : t < m
          · obtain ⟨g, rfl, hg⟩ := hsa.out (by omega)
            have hbV := hbq.trans (hB2.mono hbq.size)
            have hBV := hB.below hbV
            have x1 := (hBV.at k hkB).1
            have hb := (hBV.at k hkB).2
            rw [hrb.out] at x1 hb
            simp only at x1 hb
            obtain ⟨rbb, rboff, rfl, _⟩ := hb.addr (by omega)
            have x2 := Bt.at hb t htm
            have x3 := byte_at hO t htm
            have f0 := byte_free hO t
            have h8a := at8_lt l t
            have h8b := at8_lt lb t
            have hxx := u8_xor_nat (at8 l t) (at8 lb t) h8a h8b
            have e8 : (Mat.gadd (la.getD t 0) (lb.getD t 0)).toNat = at8 l t ^^^ at8 lb t := by
              have := HJ.out.2 t htm
              rw [if_neg (by omega)] at this
              rw [← this, Mat.toNat_add]; rfl
            have hs := hid (fun q => byte_set (own_drewN hO q) t _ _ e8)
            have hBs : Hid (∀ q v, Below wq.heap.size wq ((V.drewN q).setCell ⟨g, t, none⟩ v)) := hid (fun q v => (below_drewN hB2 q).setCell hg _)
            have j0 : (0 : Int) ≤ (t : Int) := by omega
            have j1 : (t : Int) < (m : Int) := by omega
            clear e8
            generalize at8 l t = va at *
            generalize at8 lb t = vb at *
            generalize va ^^^ vb = u at *
            go_wp2_with fail
            refine wp_region_still_tail 15 (by kernel_rfl) (by kernel_rfl) ?_
            change wpStill _ _ (World.drew _) _ _ _
            simp only [List.take_succ_cons, List.take_zero, List.drop_succ_cons, List.drop_zero]
            repeat still_step
            refine wpStill_nil ?_
            change wpList _ _ _ _ _ (World.drewN V 1)
            go_wp2_with fail
            go_roundg (m - (t + 1))
            case measure => omega
            case rel =>
              refine ⟨t + 1, _, rfl, by omega, by go_num, hs.out _, hBs.out _ _, hid ⟨by rw [List.length_set]; exact HJ.out.1, fun v hv => ?_⟩⟩
              rw [getD_set (by rw [HJ.out.1]; exact htm)]
              by_cases e : v = t
              · subst e; rw [if_pos rfl, if_pos (by omega)]
              · rw [if_neg e, HJ.out.2 v hv]
                by_cases e2 : v < t
                · rw [if_pos e2, if_pos (by omega)]
                · rw [if_neg e2, if_neg (by omega)]
          · obtain rfl : m = t := by omega
            have M2 := hMq.below hB2
            have hszq := hbq.size
            have hszV := hB2.size
            obtain ⟨sa', sc', e', hbt⟩ := own_sl hO
            injection e' with e1 e2 e3
            subst e1 e3
            have hap : Apart _ (⟨sa, m, scap, l⟩ : Rw) := fun hn b off e => by
              obtain ⟨g, e4, hg⟩ := hsa.out hn
              subst e4
              have e : some (⟨g, 0, none⟩ : Addr) = some ⟨b, off, none⟩ := e
              cases e
              obtain ⟨cur, hgg, _⟩ := own_row hO
              exact own_blk_ne M2.own.own hgg (by decide)
            have hlen : (C.length + 1) * 24 ≤ 140737488355328 := by rw [HC.out]; have := hn.out; omega
            have hrow := hid (show SumRow la lb l from ⟨hal.out.trans hbl.out.symm, HJ.out.1.trans hal.out.symm, fun j hj => by
              rw [hal.out] at hj
              rw [HJ.out.2 j hj, if_pos hj]⟩)
            go_wp2_with (refine wpList_append_rowL rfl (.tmp 52) (.tmp 54) 22 und_rowst rfl w.heap.size _ C rfl M2 ⟨sa, m, scap, l⟩ _ rfl rfl hbt hap hlen (by omega) ?_; intro v5 w5 M5 g5)
            go_roundg (n - (k + 1))
            case measure => omega
            case rel =>
              refine ⟨k + 1, C ++ [⟨sa, m, scap, l⟩], rfl, by omega, by go_num, hid (by simp [HC.out]), M5, hid (fun i hi h h' => ?_)⟩
              by_cases e : i < C.length
              · rw [List.getElem_append_left e]; exact HS.out i e h h'
              · have hi' : i < C.length + 1 := by simpa using hi
                have e2 : i = k := by have := HC.out; omega
                subst e2
                rw [List.getElem_append_right (by omega)]
                simp only [HC.out, Nat.sub_self, List.getElem_cons_zero, hra.out, hrb.out]
                exact hrow.out
      · have u0 : ((m : Int) != (m' : Int)) = true := by rw [bne_iff_ne]; omega
        have u1 : (m != m') = true := bne_iff_ne.2 hmm
        have hbad : Hid (SumR (rwData A) (rwData B) []) := hid (.inl ⟨rfl, k, by rw [rwData_length]; exact hkA, by rw [rwData_length]; exact hkB, by
          rw [rwData_at, rwData_at, hra.out, hrb.out, hal.out, hbl.out]; exact hmm⟩)
        have hmm' := hid hmm
        clear hmm
        go_wp2_with fail
        go_quiet (fail)
        go_wp2_with fail
        go_ret
        exact ⟨_, _, _, [], rfl, Ms.nil _, hbad.out, below_drewN hbo _⟩
    · obtain rfl : n = k := by omega
      obtain ⟨a', cap', rfl, hMs⟩ := hM.ms
      go_wp2_with fail
      go_ret
      refine ⟨_, _, _, C, rfl, hMs, .inr ⟨by rw [rwData_length, rwData_length, HC.out, HA.out], fun i h h' hc => ?_⟩, hbo⟩
      have hc' : i < C.length := by simpa [rwData] using hc
      have h1 : i < A.length := by simpa [rwData] using h
      have h2 : i < B.length := by simpa [rwData] using h'
      rw [rwData_at h, rwData_at h', rwData_at hc]
      exact HS.out i hc' h1 h2

end Go.Proofs.Ytoedbglbcbgdfaa
