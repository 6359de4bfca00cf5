/- Joined, and what is not used struck: EventF, CodeE. -/
import Derived.Test.YthhcdfjijagalaaM21
import Derived.Test.YthhcdfjijagalaaM22
import Derived.Test.YthhcdfjijagalaaM08
import Derived.Test.YthhcdfjijagalaaM02
namespace Go.Proofs.Ythhcdfjijagalaa
open Go.RowKit
set_option linter.unusedVariables false
theorem info_ev : (Try.prog.info? 32).map (fun i => (i.zero, i.size, i.bytes)) = some (some (.agg #[.string ⟨#[]⟩, .int .i64 0, .int .i64 0]), 3, 32) := by kernel_rfl
theorem info_ba : (Try.prog.info? 27).map (fun i => (i.zero, i.size, i.bytes)) = some (some (.agg #[.int .i64 0, .slice none 0 0]), 2, 32) := by kernel_rfl
/-- owned rows of events that batches have -/
def Ro (w : World) (base : Nat) (l : List Rb) : Prop := ∀ x ∈ l, w.ownsRow base 32 3 (.slice x.a x.n x.cap) x.n (evCells x.evs) ∧ ∀ e ∈ x.evs, e.s.size ≤ maxLen
theorem Ro.only {w w' : World} {base : Nat} {l : List Rb} {S : List Nat} (h : Ro w base l) (hO : Only w w' S) (hS : ∀ x ∈ S, (∃ cs t fr, w.heap[x]? = some (.cells cs t fr) ∧ 32 ≠ t)) : Ro w' base l := fun x hx =>
  ⟨hO.own (h x hx).1 (fun y hy => by
    obtain ⟨cs, t, fr, hb, hne⟩ := hS y hy
    intro he
    rcases (h x hx).1.2 with ⟨e1, _⟩ | ⟨g, cap, cur, e1, _, hh, _⟩
    · rw [e1] at he; simp [Value.ownBlock] at he
    · rw [e1] at he
      have : g = y := by simpa [Value.ownBlock] using he
      subst this
      rw [hb] at hh
      injection hh with hh
      injection hh with _ ht
      exact hne ht.symm), (h x hx).2⟩
theorem Ro.grown {w w' : World} {base b2 : Nat} {l : List Rb} {t : TypeId} {sz n : Nat} {o : Value} {xs : List Value} (h : Ro w base l) (ho : w.ownsRow b2 t sz o n xs) (hg : w.grownBy w' o.ownBlock) (hne : 32 ≠ t) : Ro w' base l := fun x hx =>
  ⟨(h x hx).1.kept hg (by
    rcases ho.2 with ⟨e1, _⟩ | ⟨g, cap, cur, e1, _, hh, _⟩
    · rw [e1]; cases hq : (Value.slice x.a x.n x.cap).ownBlock <;> simp [Value.ownBlock]
    · right
      intro he
      rcases (h x hx).1.2 with ⟨e2, _⟩ | ⟨g2, cap2, cur2, e2, _, hh2, _⟩
      · rw [e2, e1] at he; simp [Value.ownBlock] at he
      · rw [e2, e1] at he
        have : g2 = g := by simpa [Value.ownBlock] using he
        subst this
        rw [hh] at hh2
        injection hh2 with hh2
        injection hh2 with _ ht
        exact hne ht.symm), (h x hx).2⟩
/-- .. and their events lie in rows of their own that are new -/
def PBResO (R : Evt.PR) (w : World) (e : Ending) (w' : World) : Prop :=
  ∃ a n cap Rs, e = .returned (.tuple #[.slice a n cap, .int .i64 R.err]) ∧ Bs w' a n cap Rs ∧ Rs.map Rb.ba = R.l ∧ Below w.heap.size w w' ∧ Ro w' w.heap.size Rs
theorem Ro.below {w w' : World} {base : Nat} {l : List Rb} (h : Ro w base l) (hb : Below w.heap.size w w') : Ro w' base l := fun x hx => ⟨own_below (h x hx).1 hb, (h x hx).2⟩
theorem Ro.nil (w : World) (base : Nat) : Ro w base [] := fun x hx => by cases hx
theorem Evt.num1_lt (t : Evt.St) : (Evt.num 1 t).1 < 256 := by
  have := Evt.be_lt (Evt.take 1 t).1 1 (by rw [Evt.take_length]; exact Nat.le_refl _)
  rw [List.take_of_length_le (by rw [Evt.take_length]; exact Nat.le_refl _)] at this
  exact this
theorem Evt.batches_stop (m : Nat) (t : Evt.St) (h : m = 0 ∨ t.ok = false) : Evt.batches m t = ([], t) := by
  cases m with
  | zero => rfl
  | succ m => rcases h with h | h; omega; unfold Evt.batches; rw [if_neg (by rw [h]; simp)]
theorem Evt.events_stop (m : Nat) (t : Evt.St) (h : m = 0 ∨ t.ok = false) : Evt.events m t = ([], t) := by
  cases m with
  | zero => rfl
  | succ m => rcases h with h | h; omega; unfold Evt.events; rw [if_neg (by rw [h]; simp)]
theorem Bs.none (w : World) : Bs w none 0 0 [] := ⟨Sl.none w 2, fun r hr => by cases hr⟩
/-- what loop 1 holds -/
structure L1 (w wr : World) (N : Nat) (t0 : Evt.St) (m : Nat) (o : Value) (t : Evt.St) (Rs : List Rb) : Prop where
  eq : Evt.batches N t0 = (Rs.map Rb.ba ++ (Evt.batches m t).1, (Evt.batches m t).2)
  le : Rs.length + m ≤ 255
  rd : Rd w wr w.heap.size t
  out : wr.ownsRow w.heap.size 27 2 o Rs.length (rbCells Rs)
  evs : Ro wr w.heap.size Rs
/-- what loop 2 holds -/
structure L2 (w wr W : World) (X : Nat) (c : Int) (K : Nat) (t2 : Evt.St) (m : Nat) (ev : Value) (t : Evt.St) (es : List Evt.Ev) : Prop where
  eq : Evt.events K t2 = (es ++ (Evt.events m t).1, (Evt.events m t).2)
  le : es.length + m ≤ 255
  rd : Rd w W w.heap.size t
  box : W.heap[X]? = some (.cells #[.int .i64 c, ev] 27 (0, 0))
  own : W.ownsRow w.heap.size 32 3 ev es.length (evCells es)
  new : ∀ g, ev.ownBlock = some g → wr.heap.size ≤ g
  sz : ∀ e ∈ es, e.s.size ≤ maxLen
  only : Only wr W [w.heap.size]
theorem Only.undrew {w w' : World} {S : List Nat} (h : Only w.drew w' S) : Only w w' S := ⟨h.os, h.tape, h.output, h.size, h.block⟩
theorem Rd.of_blk {w0 w w' : World} {r : Nat} {t : Evt.St} (h : Rd w0 w r t) (hb : ∀ o, w.heap[r]? = some o → w'.heap[r]? = some o) (hB : Below w0.heap.size w0 w') : Rd w0 w' r t := by
  obtain ⟨a, n, cap, h1, h2⟩ := h.cells
  exact ⟨⟨a, n, cap, hb _ h1, h2⟩, h.old, hB⟩
theorem Rd.drew {w0 w : World} {r : Nat} {t : Evt.St} (h : Rd w0 w r t) : Rd w0 w.drew r t := h.of_blk (fun o h => h) h.below.drew
section
variable {w wo W w4 w5 : World} {X : Nat} {c : Int} {K kk : Nat} {t2 t' : Evt.St} {ev v' : Value} {es : List Evt.Ev} {lit : Obj}
theorem L2.mid (h : L2 w wo W X c K t2 (kk + 1) ev t' es) (hX : X ≠ w.heap.size) (O4 : Only W w4 [w.heap.size]) : w4.heap[X]? = some (.cells #[.int .i64 c, ev] 27 (0, 0)) ∧ w4.ownsRow w.heap.size 32 3 ev es.length (evCells es) := by
  refine ⟨O4.blk h.box (by simpa using hX), O4.own h.own (fun x hx => ?_)⟩
  obtain rfl : x = w.heap.size := by simpa using hx
  obtain ⟨a, n, cap, hb, _⟩ := h.rd.cells
  exact own_blk_ne h.own hb (by decide)
theorem L2.next (h : L2 w wo W X c K t2 (kk + 1) ev t' es) (hok : t'.ok = true) (hXo : wo.heap.size ≤ X) (hX : X ≠ w.heap.size) (hwo : w.heap.size ≤ wo.heap.size) (R4 : Rd w w4 w.heap.size (Evt.event t').2) (O4 : Only W w4 [w.heap.size]) (hs : (Evt.event t').1.s.size ≤ maxLen)
    (o5 : OT (w4.alloc lit) w5 ev.ownBlock w.heap.size 32 3 v' (es.length + 1) (evCells es ++ ev3 (Evt.event t').1)) :
    w5.heap[X]? = some (.cells #[.int .i64 c, ev] 27 (0, 0)) ∧ L2 w wo (w5.setCell ⟨X, 1, none⟩ v') X c K t2 kk v' (Evt.event t').2 (es ++ [(Evt.event t').1]) := by
  obtain ⟨hX4, hown4⟩ := h.mid hX O4
  have hX5 := grown_other (hown4.alloc lit) o5.grown (blk_old hX4) (by decide)
  have hO5 : Only wo w5 [w.heap.size] := ((h.only.more O4.grown (by simp)).alloc lit).more o5.grown (fun x hx => .inr (h.new x hx))
  have hOE := hO5.setCell (a := ⟨X, 1, none⟩) (.inr hXo) v'
  refine ⟨hX5, ⟨?_, ?_, ?_, heap_set1 hX5, ?_, ?_, ?_, hOE⟩⟩
  · have := h.eq
    rw [show Evt.events (kk + 1) t' = ((Evt.event t').1 :: (Evt.events kk (Evt.event t').2).1, (Evt.events kk (Evt.event t').2).2) by show (if t'.ok = true then _ else _) = _; rw [if_pos hok]] at this
    rw [this, List.append_assoc]; rfl
  · have := h.le
    rw [List.length_append]; simp only [List.length_cons, List.length_nil]; omega
  · refine R4.of_blk (fun o ho => ?_) ?_
    · obtain ⟨a, n, cap, hb, _⟩ := R4.cells
      rw [hb] at ho; cases ho
      rw [Below.heap_setCell _ _ _ _ (fun e => hX e.symm)]
      exact grown_other (hown4.alloc lit) o5.grown (blk_old hb) (by decide)
    · have hb4 := R4.below
      refine Below.setCell ?_ (by show w.heap.size ≤ X; omega) _
      exact (hb4.alloc hb4.size lit).trans (below_of_grown o5.grown (by simp; have := hb4.size; omega) (fun k hk => by have := h.new k hk; omega))
  · have e : (es ++ [(Evt.event t').1]).length = es.length + 1 := by simp
    rw [e, evCells_append]
    have e2 : evCells [(Evt.event t').1] = ev3 (Evt.event t').1 := by unfold evCells; simp
    rw [e2]
    exact ownsRow_setCell_other o5.own (own_blk_ne o5.own hX5 (by decide)) _
  · intro g hg
    have h1 := h.only.size
    have h2 := O4.size
    rcases o5.lies with h3 | h3
    · exact h.new g (by rw [← h3]; exact hg)
    · have := h3 g hg
      simp at this; omega
  · intro e he
    rcases List.mem_append.1 he with he | he
    · exact h.sz e he
    · rw [List.mem_singleton.1 he]; exact hs
end
theorem L1.next {w wo W w5 : World} {N K m kk X n2 : Nat} {t0 t2 t' : Evt.St} {Rs : List Rb} {c : Int} {ea : Option Addr} {ecap : Nat} {es : List Evt.Ev} {o v5 : Value} {lit : Obj} {rcs : Array Value}
    (HEQ : Evt.batches N t0 = (Rs.map Rb.ba ++ ⟨c, (Evt.events K t2).1⟩ :: (Evt.batches m (Evt.events K t2).2).1, (Evt.batches m (Evt.events K t2).2).2)) (hle : Rs.length + (m + 1) ≤ 255)
    (hout : wo.ownsRow w.heap.size 27 2 o Rs.length (rbCells Rs)) (hevs : Ro wo w.heap.size Rs) (hrb : wo.heap[w.heap.size]? = some (.cells rcs 148 (0, 0))) (hL : L2 w wo W X c K t2 kk (.slice ea es.length ecap) t' es) (hst : kk = 0 ∨ t'.ok = false)
    (o5 : OT (W.alloc lit) w5 o.ownBlock w.heap.size 27 2 v5 (Rs.length + 1) (rbCells Rs ++ [.int .i64 c, .slice ea es.length ecap])) : L1 w w5 N t0 m v5 t' (Rs ++ [⟨c, ea, es.length, ecap, es⟩]) := by
  have heq := hL.eq
  rw [Evt.events_stop _ _ hst, List.append_nil] at heq
  rw [heq] at HEQ
  have hoW : W.ownsRow w.heap.size 27 2 o Rs.length (rbCells Rs) := hL.only.own hout (fun x hx => by
    obtain rfl : x = w.heap.size := by simpa using hx
    exact own_blk_ne hout hrb (by decide))
  have heW : Ro W w.heap.size Rs := hevs.only hL.only (fun x hx => by
    obtain rfl : x = w.heap.size := by simpa using hx
    exact ⟨_, _, _, hrb, by decide⟩)
  have hbW := hL.rd.below
  refine ⟨?_, by simp only [List.length_append, List.length_cons, List.length_nil]; omega, ?_, ?_, ?_⟩
  · rw [HEQ, List.map_append, List.append_assoc]; rfl
  · refine hL.rd.of_blk (fun ob ho => ?_) ((hbW.alloc hbW.size lit).trans (below_of_grown o5.grown (by simp; have := hbW.size; omega) (fun k hk => (hoW.lt k hk).1)))
    obtain ⟨a, n, cap, hb, _⟩ := hL.rd.cells
    rw [hb] at ho; cases ho
    exact grown_other (hoW.alloc lit) o5.grown (blk_old hb) (by decide)
  · have e : (Rs ++ [(⟨c, ea, es.length, ecap, es⟩ : Rb)]).length = Rs.length + 1 := by simp
    rw [e, rbCells_append]
    exact o5.own
  · have h1 : Ro W w.heap.size (Rs ++ [⟨c, ea, es.length, ecap, es⟩]) := fun x hx => by
      rcases List.mem_append.1 hx with hx | hx
      · exact heW x hx
      · obtain rfl := List.mem_singleton.1 hx
        exact ⟨hL.own, hL.sz⟩
    have h2 : Ro (W.alloc lit) w.heap.size (Rs ++ [⟨c, ea, es.length, ecap, es⟩]) := h1.only ((Only.refl W []).alloc lit) (by simp)
    exact h2.grown (hoW.alloc lit) o5.grown (by decide)
set_option maxRecDepth 100000 in
set_option maxHeartbeats 4000000 in
theorem eParse_callO (a : Option Addr) (n cap : Nat) (l : List UInt8) (w : World) (h : Bt w a n cap l) : Calls Try.prog 79 #[.slice a n cap] w (PBResO (Evt.parse l) w) := by
  have D1 := fun W t (h : Rd w W w.heap.size t) => rdnum_call w W w.heap.size 1 t (by omega) h
  have D3 := fun W t (h : Rd w W w.heap.size t) => rdnum_call w W w.heap.size 3 t (by omega) h
  have DE := hid (fun W t (h : Rd w W w.heap.size t) => rdevent_call w W w.heap.size t h)
  have R0 : Rd w (w.alloc (.cells #[.slice a n cap, .bool true] 148)) w.heap.size ⟨l, true⟩ := ⟨⟨a, n, cap, blk_new w _, h⟩, Nat.le_refl _, (Below.refl _ _).alloc (Nat.le_refl _) _⟩
  have D0 := hid (D1 _ _ R0)
  replace D1 := hid D1; replace D3 := hid D3
  have HP := hid (show Evt.parse l = if (Evt.batches (Evt.num 1 ⟨l, true⟩).1 (Evt.num 1 ⟨l, true⟩).2).2.ok = false ∨ (Evt.batches (Evt.num 1 ⟨l, true⟩).1 (Evt.num 1 ⟨l, true⟩).2).2.l ≠ [] then ⟨[], 2⟩ else if 150 < (Evt.batches (Evt.num 1 ⟨l, true⟩).1 (Evt.num 1 ⟨l, true⟩).2).1.length then ⟨[], 5⟩ else if (Evt.fb (Evt.batches (Evt.num 1 ⟨l, true⟩).1 (Evt.num 1 ⟨l, true⟩).2).1 0).1 ≠ 0 then ⟨[], (Evt.fb (Evt.batches (Evt.num 1 ⟨l, true⟩).1 (Evt.num 1 ⟨l, true⟩).2).1 0).1⟩ else ⟨(Evt.batches (Evt.num 1 ⟨l, true⟩).1 (Evt.num 1 ⟨l, true⟩).2).1, 0⟩ from rfl)
  have hN := Evt.num1_lt ⟨l, true⟩
  generalize Evt.num 1 ⟨l, true⟩ = n0 at *
  obtain ⟨N, t0⟩ := n0
  simp only at hN
  go_enter Try.func79, Try.ntmps79
  go_wp2_with fail
  go_at_call 93; refine (D0.out).mono ?_; rintro e w1 ⟨rfl, R1, O1⟩
  clear D0 R0
  go_wp2_with fail
  go_loopg [5, 6, 7, 8] N (fun g o i s7 s8 wr => ∃ m t Rs, g = m ∧ i = .int .i64 (m : Int) ∧ L1 w wr N t0 m o t Rs)
  case atStart => exact ⟨N, t0, [], rfl, rfl, ⟨rfl, by simp; omega, R1, World.ownsRow_nil _ _ _ _, fun x hx => by cases hx⟩⟩
  case round =>
    obtain ⟨m, t, Rs, rfl, rfl, hL⟩ := hrel
    obtain ⟨wo, rfl⟩ : ∃ wo : World, wo = wr := ⟨_, rfl⟩
    obtain ⟨heq, hle, hrd, hout, hevs⟩ := hL
    have HEQ := hid heq
    clear heq
    obtain ⟨⟨ra, rn, rc, hrb, hrl⟩, _, hbw⟩ := id hrd
    have hsz := hbw.size
    have hzr := blk_lt hrb
    have c0 : wo.cell? ⟨w.heap.size, 0, none⟩ = some (.slice ra rn rc) := blk_cell hrb
    have c1 : wo.cell? ⟨w.heap.size, 1, none⟩ = some (.bool t.ok) := blk_cell hrb
    by_cases hstop : gk = 0 ∨ t.ok = false
    · have HE := HEQ.out
      rw [Evt.batches_stop _ _ hstop, List.append_nil] at HE
      have HP2 := HP.out
      rw [HE] at HP2
      simp only at HP2
      replace HP2 := hid HP2
      have HRN := hid (Bt.n hrl)
      clear HE HP HEQ
      cases hok : t.ok with
      | false =>
        rw [hok] at c1
        have HR := hid (show Evt.parse l = ⟨[], 2⟩ by rw [HP2.out, if_pos (.inl hok)])
        rcases Nat.eq_zero_or_pos gk with h0 | h0
        · subst h0
          clear hstop hok
          go_wp2_with fail
          go_ret2
          exact ⟨none, 0, 0, [], by rw [HR.out]; rfl, Bs.none _, by rw [HR.out]; rfl, hbw, Ro.nil _ _⟩
        · have u0 : decide (0 < (gk : Int)) = true := by simp; omega
          clear hstop hok
          go_wp2_with fail
          go_ret2
          exact ⟨none, 0, 0, [], by rw [HR.out]; rfl, Bs.none _, by rw [HR.out]; rfl, hbw, Ro.nil _ _⟩
      | true =>
        rw [hok] at c1
        have h0 : gk = 0 := by
          rcases hstop with h | h
          · exact h
          · rw [hok] at h; cases h
        subst h0
        clear hstop
        by_cases hrn : 0 < rn
        · have HR := hid (show Evt.parse l = ⟨[], 2⟩ by rw [HP2.out, if_pos (.inr (fun e => by have := HRN.out; rw [e] at this; simp at this; omega))])
          clear hok
          go_wp2_with fail
          go_ret2
          exact ⟨none, 0, 0, [], by rw [HR.out]; rfl, Bs.none _, by rw [HR.out]; rfl, hbw, Ro.nil _ _⟩
        · obtain rfl : rn = 0 := by omega
          have hnil : t.l = [] := List.eq_nil_of_length_eq_zero HRN.out
          have HP3 := hid (HP2.out.trans (if_neg (fun h => h.elim (fun h => by rw [hok] at h; cases h) (fun h => h hnil))))
          obtain ⟨oa, oc, rfl, hsl⟩ := own_sl hout
          have hmax := hsl.max
          have hleo := hsl.le
          unfold maxLen at hmax
          have hB : Bs wo oa Rs.length oc Rs := ⟨hsl, fun r hr => by
            obtain ⟨h1, h2⟩ := hevs r hr
            obtain ⟨a2, c2, e2, s2⟩ := own_sl h1
            cases e2
            exact ⟨s2, h2⟩⟩
          have HEV := hid hevs
          clear hok HP2 hevs hout
          by_cases h150 : 150 < Rs.length
          · have HR := hid (show Evt.parse l = ⟨[], 5⟩ by rw [HP3.out, if_pos (by rw [List.length_map]; exact h150)])
            go_wp2_with fail
            go_ret2
            exact ⟨none, 0, 0, [], by rw [HR.out]; rfl, Bs.none _, by rw [HR.out]; rfl, hbw, Ro.nil _ _⟩
          · have HP4 := hid (HP3.out.trans (if_neg (by rw [List.length_map]; exact h150)))
            clear HP3
            obtain ⟨nR, hnR⟩ : ∃ nR, Rs.length = nR := ⟨_, rfl⟩
            rw [hnR] at hB hsl hleo h150 hle ⊢
            have HNR := hid hnR
            clear hnR
            go_wp2_with fail
            go_loopg [10, 11, 71] nR (fun g s10 s11 i W => ∃ k, g = nR - k ∧ k ≤ nR ∧ i = .int .i64 (k : Int) ∧ Below wo.heap.size wo W ∧ Hid (Evt.fb (Rs.map Rb.ba) 0 = Evt.fb ((Rs.map Rb.ba).drop k) k))
            case atStart => exact ⟨0, rfl, by omega, rfl, Below.refl _ _, hid (by simp)⟩
            case round =>
              obtain ⟨k, rfl, hk, rfl, hbW, HB⟩ := hrel
              by_cases hlt : k < nR
              · have hkl : k < Rs.length := by rw [HNR.out]; exact hlt
                obtain ⟨b, off, rfl, _⟩ := hsl.addr (by omega)
                obtain ⟨q0, q1, hE⟩ := (hB.below hbW).at k hkl
                generalize hr : Rs[k] = r at *
                obtain ⟨c, ea, en, ec, evs⟩ := r
                simp only at q0 q1 hE
                have HR := hid hr
                clear hr
                have D := hid (fun W (hE : Es W ea en ec evs) => eWrongBatch_call c ea en ec evs W hE)
                have HP := hid (Evt.fb_step (Rs.map Rb.ba) k ⟨c, evs⟩ (by rw [List.getElem?_map, List.getElem?_eq_getElem hkl, HR.out]; rfl))
                go_wp2_with fail
                go_at_call 52; refine (D.out _ (hE.alloc _)).mono ?_; rintro e w4 ⟨rfl, b4⟩
                have hbW4 : Below wo.heap.size wo w4 := (hbW.alloc hbW.size _).trans (b4.mono (by have := hbW.size; simp; omega))
                have hzo := hbW4.size
                unfold fVal
                obtain ⟨f1, hf1⟩ : ∃ f1, (Evt.wrongBa ⟨c, evs⟩).1 = f1 := ⟨_, rfl⟩
                rw [hf1]
                have HF := hid hf1
                generalize (Evt.wrongBa ⟨c, evs⟩).2 = f2
                clear hf1 b4 q0 q1 hE D
                by_cases hz : f1 = 0
                · subst hz
                  go_wp2_with fail
                  go_roundg (nR - (k + 1))
                  case measure => omega
                  case rel => exact ⟨k + 1, rfl, by omega, by go_num, hbW4.alloc hzo _, hid (by rw [HB.out, HP.out, if_neg (fun h => h HF.out)])⟩
                · have t0 : (f1 != 0) = true := by rw [bne_iff_ne]; exact hz
                  have hG := hid (show Evt.parse l = ⟨[], f1⟩ by
                    have e1 : (Evt.fb (Rs.map Rb.ba) 0) = (f1, (k : Int)) := by rw [HB.out, HP.out, if_pos (by rw [HF.out]; exact hz), HF.out]
                    rw [HP4.out, e1, if_pos hz])
                  clear hz HB
                  go_wp2_with fail
                  go_quiet (fail)
                  go_wp2_with fail
                  go_ret2
                  exact ⟨none, 0, 0, [], by rw [hG.out]; rfl, Bs.none _, by rw [hG.out]; rfl, hbw.trans ((below_drewN (hbW4.alloc hzo _) _).mono hsz), Ro.nil _ _⟩
              · obtain rfl : k = nR := by omega
                have hG := hid (show Evt.parse l = ⟨Rs.map Rb.ba, 0⟩ by
                  have e1 : (Evt.fb (Rs.map Rb.ba) 0).1 = 0 := by rw [HB.out, List.drop_of_length_le (by rw [List.length_map, HNR.out]; exact Nat.le_refl _)]; rfl
                  rw [HP4.out, if_neg (fun h => h e1)])
                go_wp2_with fail
                go_ret2
                refine ⟨oa, _, oc, Rs, ?_, hB.below hbW, ?_, hbw.trans (hbW.mono hsz), HEV.out.below hbW⟩
                · rw [hG.out]; rfl
                · rw [hG.out]
    · obtain ⟨m, rfl⟩ : ∃ m, gk = m + 1 := ⟨gk - 1, by omega⟩
      have hok : t.ok = true := by
        cases hh : t.ok with
        | true => rfl
        | false => exact absurd (.inr hh) hstop
      rw [hok] at c1
      have t0' : decide (0 < ((m + 1 : Nat) : Int)) = true := by simp
      have t0'' : decide ((0 : Int) < (m : Int) + 1) = true := by simp
      clear hstop
      have d3 := D3.out wo t hrd
      have HB1 : Evt.batches (m + 1) t = (⟨(Evt.num 3 t).1, (Evt.events (Evt.num 1 (Evt.num 3 t).2).1 (Evt.num 1 (Evt.num 3 t).2).2).1⟩ :: (Evt.batches m (Evt.events (Evt.num 1 (Evt.num 3 t).2).1 (Evt.num 1 (Evt.num 3 t).2).2).2).1, (Evt.batches m (Evt.events (Evt.num 1 (Evt.num 3 t).2).1 (Evt.num 1 (Evt.num 3 t).2).2).2).2) := by
        show (if t.ok = true then _ else _) = _
        rw [if_pos hok]; rfl
      have HEQ2 := HEQ.out
      rw [HB1] at HEQ2
      clear HEQ HB1
      generalize Evt.num 3 t = p3 at *
      obtain ⟨c, t1⟩ := p3
      simp only at HEQ2
      have hK := Evt.num1_lt t1
      have d1 := fun W => D1.out W t1
      generalize Evt.num 1 t1 = p1 at *
      obtain ⟨K, t2⟩ := p1
      simp only at HEQ2 hK
      have HEQ := hid HEQ2
      replace d3 := hid d3; replace d1 := hid d1
      clear HEQ2
      go_wp2_with fail
      go_at_call 93; refine (d3.out).mono ?_; rintro e w2 ⟨rfl, R2, O2⟩
      have hzw2 := O2.size
      have hneX : w.heap.size ≠ w2.heap.size := by omega
      have R2' := R2.keep ((Only.refl w2 []).alloc (.cells #[.int .i64 (c : Int), .slice none 0 0] 27)) (by simp) (by simp)
      clear d3 c0 c1 t0' t0''
      go_wp2_with fail
      go_at_call 93; refine (d1.out _ R2').mono ?_; rintro e w3 ⟨rfl, R3, O3⟩
      have hX3 := O3.blk (blk_new w2 (.cells #[.int .i64 (c : Int), .slice none 0 0] 27)) (by simpa using Ne.symm hneX)
      have hO3 : Only wo w3 [w.heap.size] := ((O2.alloc (.cells #[.int .i64 (c : Int), .slice none 0 0] 27)).more O3.grown (by simp))
      clear d1 R2 R2' O3
      go_wp2_with fail
      go_loopg [8] K (fun g i W => ∃ kk t' ev es, g = kk ∧ i = .int .i64 (kk : Int) ∧ L2 w wo W w2.heap.size c K t2 kk ev t' es)
      case atStart => exact ⟨K, t2, .slice none 0 0, [], rfl, rfl, ⟨rfl, by simp; omega, R3, hX3, World.ownsRow_nil _ _ _ _, fun g hg => by simp [Value.ownBlock] at hg, fun x hx => (by cases hx), hO3⟩⟩
      case round =>
        obtain ⟨kk, t', ev, es, rfl, rfl, hL⟩ := hrel
        have HL := hid hL
        obtain ⟨⟨ra2, rn2, rc2, hrb2, hrl2⟩, _, hbw2⟩ := id hL.rd
        have c1 : wr.cell? ⟨w.heap.size, 1, none⟩ = some (.bool t'.ok) := blk_cell hrb2
        have x0 : wr.cell? ⟨w2.heap.size, 0, none⟩ = some (.int .i64 (c : Int)) := blk_cell hL.box
        have x1 : wr.cell? ⟨w2.heap.size, 1, none⟩ = some ev := blk_cell hL.box
        by_cases hstop2 : gk = 0 ∨ t'.ok = false
        · obtain ⟨ea, ecap, rfl, _⟩ := own_sl hL.own
          have hoW : wr.ownsRow w.heap.size 27 2 u5 Rs.length (rbCells Rs) := hL.only.own hout (fun x hx => by
            obtain rfl : x = w.heap.size := by simpa using hx
            exact own_blk_ne hout hrb (by decide))
          have NX := hid (fun v5 w5 lit => @L1.next w wo wr w5 N K m gk w2.heap.size 0 t0 t2 t' Rs c ea ecap es u5 v5 lit _ HEQ.out hle hout hevs hrb hL hstop2)
          have hzw := hL.only.size
          obtain ⟨a5, cp5, rfl, _⟩ := own_sl hoW
          clear hL
          rcases Nat.eq_zero_or_pos gk with h0 | h0
          · subst h0
            go_wp2_with (refine wpList_append_t rfl (.tmp 49) (.tmp 51) 39 39 rfl w.heap.size 27 2 32 (.agg #[.int .i64 0, .slice none 0 0]) Try.underlying39 info_ba rfl (by decide) (.slice a5 Rs.length cp5) Rs.length (rbCells Rs) rfl (OT.start (hoW.alloc (.cells #[.int .i64 (c : Int), .slice ea es.length ecap] 27))) _ 1 [.int .i64 (c : Int), .slice ea es.length ecap] rfl (Src.ofLit wr #[.int .i64 (c : Int), .slice ea es.length ecap] 27 1 2 Try.underlying39 rfl (by simp [Value.oneCell'])) (by unfold maxLen; omega) (by omega) (by simp; omega) ?_; intro v5 w5 o5 g5; have hL5 := NX.out v5 w5 _ o5)
            go_roundg m
            case measure => omega
            case rel => exact ⟨m, _, _, rfl, by go_num, hL5⟩
          · have hok2 : t'.ok = false := by
              rcases hstop2 with h | h
              · omega
              · exact h
            rw [hok2] at c1
            have u0 : decide (0 < (gk : Int)) = true := by simp; omega
            go_wp2_with (refine wpList_append_t rfl (.tmp 49) (.tmp 51) 39 39 rfl w.heap.size 27 2 32 (.agg #[.int .i64 0, .slice none 0 0]) Try.underlying39 info_ba rfl (by decide) (.slice a5 Rs.length cp5) Rs.length (rbCells Rs) rfl (OT.start (hoW.alloc (.cells #[.int .i64 (c : Int), .slice ea es.length ecap] 27))) _ 1 [.int .i64 (c : Int), .slice ea es.length ecap] rfl (Src.ofLit wr #[.int .i64 (c : Int), .slice ea es.length ecap] 27 1 2 Try.underlying39 rfl (by simp [Value.oneCell'])) (by unfold maxLen; omega) (by omega) (by simp; omega) ?_; intro v5 w5 o5 g5; have hL5 := NX.out v5 w5 _ o5)
            go_roundg m
            case measure => omega
            case rel => exact ⟨m, _, _, rfl, by go_num, hL5⟩
        · obtain ⟨kk, rfl⟩ : ∃ kk, gk = kk + 1 := ⟨gk - 1, by omega⟩
          have hok2 : t'.ok = true := by
            cases hh : t'.ok with
            | true => rfl
            | false => exact absurd (.inr hh) hstop2
          rw [hok2] at c1
          have u0 : decide (0 < ((kk + 1 : Nat) : Int)) = true := by simp
          have u1 : decide ((0 : Int) < (kk : Int) + 1) = true := by simp
          have de := hid (fun W h => DE.out W t' h)
          have hls : es.length + (kk + 1) ≤ 255 := hL.le
          have HOK := hid hok2
          have hneX' : ¬ w2.heap.size = w.heap.size := fun e => hneX e.symm
          clear hstop2 hok2 hL
          go_wp2_with fail
          have hRd := HL.out.rd.drew
          go_region_law (first
            | (go_simp; go_at_call 94; refine (de.out _ hRd).mono ?_; rintro e w4 ⟨rfl, R4, O4, hs4⟩; have O4' := O4.undrew; obtain ⟨hX4, hown4⟩ := HL.out.mid hneX' O4'; have k4 : w4.cell? ⟨w2.heap.size, 1, none⟩ = some ev := blk_cell hX4; have k5 : (w4.alloc (.cells #[.string (Evt.event t').1.s, .int .i64 (Evt.event t').1.k, .int .i64 (Evt.event t').1.n] 32)).cell? ⟨w2.heap.size, 1, none⟩ = some ev := (cell_old (blk_lt hX4)).trans k4; have z4 := R4.below.size; unfold evVal)
            | (refine step_append_t rfl (.tmp 43) (.tmp 46) 25 25 rfl w.heap.size 32 3 32 (.agg #[.string ⟨#[]⟩, .int .i64 0, .int .i64 0]) Try.underlying25 info_ev rfl (by decide) ev es.length (evCells es) rfl (OT.start (hown4.alloc (.cells #[.string (Evt.event t').1.s, .int .i64 (Evt.event t').1.k, .int .i64 (Evt.event t').1.n] 32))) _ 1 [.string (Evt.event t').1.s, .int .i64 (Evt.event t').1.k, .int .i64 (Evt.event t').1.n] rfl (Src.ofLit w4 #[.string (Evt.event t').1.s, .int .i64 (Evt.event t').1.k, .int .i64 (Evt.event t').1.n] 32 1 3 Try.underlying25 rfl (by simp [Value.oneCell'])) (by unfold maxLen; omega) (by omega) (by simp; omega) ?_; intro v5 w5 o5 g5; obtain ⟨a5, cp5, rfl, _⟩ := own_sl o5.own; obtain ⟨hX5, hL5⟩ := HL.out.next HOK.out hzw2 hneX' hsz R4 O4' hs4 o5; have s0 : w5.cell? ⟨w2.heap.size, 1, none⟩ = some ev := blk_cell hX5; have s1 : w5.frozen? ⟨w2.heap.size, 1, none⟩ = false := blk_free hX5))
          all_goals go_wp2_with fail
          all_goals
            go_roundg kk
            case measure => omega
            case rel => exact ⟨kk, _, _, _, rfl, by go_num, hL5⟩
end Go.Proofs.Ythhcdfjijagalaa
namespace Go.Proofs.Ythhcdfjijagalaa
open Go.RowKit
set_option linter.unusedVariables false
set_option maxRecDepth 100000
def rw0 : Rw := ⟨none, 0, 0, []⟩
/-- Two own lists of rows, apart. -/
structure Tw (w W : World) (v1 : Value) (T : List Rw) (v2 : Value) (P : List Rw) : Prop where
  t : OT w W none w.heap.size 88 1 v1 T.length (rwCells T)
  p : OT w W none w.heap.size 88 1 v2 P.length (rwCells P)
  ne : ∀ x, v1.ownBlock = some x → v2.ownBlock ≠ some x
/-- A literal of one row, apart from both. -/
structure Lit1 (W : World) (v1 v2 : Value) (b : Nat) (u : Value) : Prop where
  cell : W.cell? ⟨b, 0, none⟩ = some u
  ne1 : v1.ownBlock ≠ some b
  ne2 : v2.ownBlock ≠ some b
section
variable {w W W' : World} {v1 v2 v' : Value} {T P : List Rw} {b : Nat} {u : Value}
theorem Tw.nil (w : World) : Tw w w (.slice none 0 0) [] (.slice none 0 0) [] := ⟨OT.fresh (World.ownsRow_nil _ _ _ _) (Below.refl _ _) (Nat.le_refl _), OT.fresh (World.ownsRow_nil _ _ _ _) (Below.refl _ _) (Nat.le_refl _), fun x e => by cases e⟩
theorem Tw.keep (h : Tw w W v1 T v2 P) (hb : Below W.heap.size W W') : Tw w W' v1 T v2 P := ⟨h.t.below hb, h.p.below hb, h.ne⟩
theorem Tw.alloc (h : Tw w W v1 T v2 P) (o : Obj) : Tw w (W.alloc o) v1 T v2 P := h.keep ((Below.refl _ _).alloc (Nat.le_refl _) o)
theorem Tw.drew (h : Tw w W v1 T v2 P) : Tw w W.drew v1 T v2 P := h.keep (below_drewN (Below.refl _ _) 1)
theorem Tw.below (h : Tw w W v1 T v2 P) : Below w.heap.size w W := h.t.belowOf (Nat.le_refl _) (fun k e => by cases e)
theorem Tw.size (h : Tw w W v1 T v2 P) : w.heap.size ≤ W.heap.size := h.t.grown.size
theorem Lit1.alloc (h : Lit1 W v1 v2 b u) (o : Obj) : Lit1 (W.alloc o) v1 v2 b u := ⟨(cell_old (World.block_lt_of_cell? _ _ h.cell)).trans h.cell, h.ne1, h.ne2⟩
theorem Lit1.drew (h : Lit1 W v1 v2 b u) : Lit1 W.drew v1 v2 b u := ⟨h.cell, h.ne1, h.ne2⟩
theorem Tw.lit (h : Tw w W v1 T v2 P) (u : Value) (hb : W.heap.size = b) : Lit1 (W.alloc (.cells #[u] 88)) v1 v2 b u := by
  subst hb
  refine ⟨cell_new W #[u] 88 0, fun e => ?_, fun e => ?_⟩
  · exact absurd (h.t.own.lt _ e).2 (Nat.lt_irrefl _)
  · exact absurd (h.p.own.lt _ e).2 (Nat.lt_irrefl _)
theorem Tw.litD (h : Tw w W v1 T v2 P) (u : Value) (hb : W.heap.size = b) : Lit1 (W.alloc (.cells #[u] 88)).drew v1 v2 b u := (h.lit u hb).drew
theorem OT.other {row : Option Nat} {base : Nat} {e : TypeId} {sz n : Nat} {o : Value} {xs : List Value} {q : Option Nat} {w0 : World} (h : OT w0 W row base e sz o n xs) (hg : W.grownBy W' q) (hq : ∀ x, q = some x → w0.heap.size ≤ x ∧ o.ownBlock ≠ some x) : OT w0 W' row base e sz o n xs := h.step hg (.inr hq)
/-- one more in the first -/
theorem Tw.push1 (h : Tw w W v1 T v2 P) {r : Rw} (ho : OT w W' none w.heap.size 88 1 v' (T.length + 1) (rwCells T ++ [r.v])) (hg : W.grownBy W' v1.ownBlock) (hl : v'.ownBlock = v1.ownBlock ∨ v'.ownBlock = some W.heap.size) : Tw w W' v' (T ++ [r]) v2 P := by
  refine ⟨by simpa [rwCells] using ho, h.p.other hg (fun x hx => ⟨(h.t.own.lt x hx).1, h.ne x hx⟩), fun x hx => ?_⟩
  rcases hl with hl | hl
  · rw [hl] at hx; exact h.ne x hx
  · rw [hl] at hx
    cases hx
    exact fun e => absurd (h.p.own.lt _ e).2 (Nat.lt_irrefl _)
theorem Tw.symm (h : Tw w W v1 T v2 P) : Tw w W v2 P v1 T := ⟨h.p, h.t, fun x hx e => h.ne x e hx⟩
theorem Lit1.symm (h : Lit1 W v1 v2 b u) : Lit1 W v2 v1 b u := ⟨h.cell, h.ne2, h.ne1⟩
theorem Lit1.push1 (h : Lit1 W v1 v2 b u) (hg : W.grownBy W' v1.ownBlock) (hl : v'.ownBlock = v1.ownBlock ∨ v'.ownBlock = some W.heap.size) : Lit1 W' v' v2 b u := by
  have hb := World.block_lt_of_cell? _ _ h.cell
  refine ⟨?_, ?_, h.ne2⟩
  · rw [World.cell?_of_block (w := W) (hg.block b hb (fun e => h.ne1 e.symm))]
    exact h.cell
  · rcases hl with hl | hl
    · rw [hl]; exact h.ne1
    · rw [hl]; intro e
      have e : W.heap.size = b := by simpa using e
      have hb : b < W.heap.size := hb
      omega
/-- a cell that was there is as it was -/
theorem Tw.old (h : Tw w W v1 T v2 P) (hg : W.grownBy W' v1.ownBlock) {p : Addr} {u : Value} (hp : W.cell? p = some u) (hw : p.block < w.heap.size) : W'.cell? p = some u := by
  rw [World.cell?_of_block (w := W) (hg.block p.block (World.block_lt_of_cell? _ _ hp) (fun e => ?_))]
  · exact hp
  · have := (h.t.own.lt _ e.symm).1
    omega
end
section
variable {ops : Array Oper} {o : Oper} {a : Act} {K : Act → World → Prop} {Q : Exit → Act → World → Prop} {E : Prop} {w W : World}
theorem step_append_tw (hgd : o.guard = none) (s xo : Operand) (tt : TypeId) (htt : Try.prog.underlying tt = some (.slice 88)) (ho : o.op = .call { callee := .builtin .append, args := #[s, xo], argTypes := #[tt, tt] })
    {v1 v2 : Value} {T P : List Rw} (h : Tw w W v1 T v2 P) (hs : a.eval s = v1) (r : Rw) (b : Nat) (hxe : a.eval xo = .slice (some ⟨b, 0, none⟩) 1 1) (hl : Lit1 W v1 v2 b r.v) (hlen : T.length ≤ 1000)
    (h' : ∀ v' W', Tw w W' v' (T ++ [r]) v2 P → W.grownBy W' v1.ownBlock → (v'.ownBlock = v1.ownBlock ∨ v'.ownBlock = some W.heap.size) → K (a.put o.dst v') W') : if Region.wanted o (yielded ops a.tmps) = true then Oper.wp Try.prog o a W K Q else E := by
  have hw : Region.wanted o (yielded ops a.tmps) = true := by simp [Region.wanted, hgd]
  rw [if_pos hw]
  obtain ⟨i, hi, hz, e1, e2⟩ := info_parts1 info_bytest
  have hsrc : Src Try.prog 1 tt (.slice (some ⟨b, 0, none⟩) 1 1) 1 [r.v] W := Src.ofSlice W htt ⟨b, 0, none⟩ 1 1 [r.v] rfl (fun j u hj => by
    have hj0 : j = 0 := by
      have := (List.getElem?_eq_some_iff.1 hj).1
      simp at this; omega
    subst hj0
    rw [add_off, Nat.add_zero, hl.cell]; simpa using hj) (fun u hu => by simp at hu; subst hu; rfl)
  obtain ⟨v', w', hr, h3, h4, h5⟩ := run_append_lies_src (P := Try.prog) W w.heap.size tt tt o.type 88 i (.slice none 0 0) 1 24 htt hi hz e1 e2 rfl (by decide) v1 T.length (rwCells T) h.t.own _ 1 [r.v] hsrc (by unfold maxLen; omega) (by omega) h.size
  have h5' : v'.ownBlock = v1.ownBlock ∨ ∀ k, v'.ownBlock = some k → W.heap.size ≤ k := by
    rcases h5 with h5 | h5
    · exact .inl h5
    · exact .inr fun k hk => by rw [h5] at hk; cases hk; exact Nat.le_refl _
  unfold Oper.wp execOp
  simp only [ho, resolve, invoke, builtin, Sem.run_bind, Sem.run_pure, Result.andThen_ok, List.map_toArray, List.map_cons, List.map_nil, hs, hxe, hr]
  exact h' v' w' (h.push1 (h.t.more h3 h4 h5') h4 h5) h4 h5
end
end Go.Proofs.Ythhcdfjijagalaa
