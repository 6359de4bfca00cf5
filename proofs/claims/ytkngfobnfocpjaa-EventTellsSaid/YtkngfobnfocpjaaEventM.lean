/- Contract of the reference's Parse: it returns what the plain laws say. -/
import Derived.Test.YtkngfobnfocpjaaEventK
namespace Go.Proofs.Ytkngfobnfocpjaa
open Go.RowKit
set_option linter.unusedVariables false

/-- what loop 1 holds -/
structure M1 (w wr : World) (l : List UInt8) (N : Nat) (t0 : Evt.St) (m : Nat) (o : Value) (q : Nat) (ok : Bool) (t : Evt.St) (Rs : List Rb) : Prop where
  rel : Rel l ok q t
  eq : ok = true → Evt.batches N t0 = (Rs.map Rb.ba ++ (Evt.batches m t).1, (Evt.batches m t).2)
  bad : ok = false → (Evt.batches N t0).2.ok = false
  le : Rs.length + m ≤ 255
  rd : Rr w wr (w.heap.size + 1) w.heap.size (w.heap.size + 2) l q ok
  out : wr.ownsRow w.heap.size 52 2 o Rs.length (rbCells Rs)
  evs : Ro wr w.heap.size Rs
/-- what loop 2 holds -/
structure M2 (w wo W : World) (l : List UInt8) (X : Nat) (c cp : Nat) (K : Nat) (t2 : Evt.St) (m : Nat) (ev : Value) (q : Nat) (ok : Bool) (t : Evt.St) (es : List Evt.Ev) : Prop where
  rel : Rel l ok q t
  eq : ok = true → Evt.events K t2 = (es ++ (Evt.events m t).1, (Evt.events m t).2)
  bad : ok = false → (Evt.events K t2).2.ok = false
  le : es.length + m ≤ 255
  rd : Rr w W (w.heap.size + 1) w.heap.size (w.heap.size + 2) l q ok
  hc : ok = true → c = cp
  box : W.heap[X]? = some (.cells #[.int .i64 (c : Int), ev] 52 (0, 0))
  own : W.ownsRow w.heap.size 47 3 ev es.length (evCells es)
  new : ∀ g, ev.ownBlock = some g → wo.heap.size ≤ g
  sz : ∀ e ∈ es, e.s.size ≤ maxLen
  only : Only wo W [w.heap.size + 1, w.heap.size + 2]
theorem Rr.keep {w0 w w' : World} {pa pb po : Nat} {l : List UInt8} {q : Nat} {ok : Bool} (h : Rr w0 w pa pb po l q ok) (hb : ∀ x o, x = pa ∨ x = pb ∨ x = po → w.heap[x]? = some o → w'.heap[x]? = some o) (hB : Below w0.heap.size w0 w') : Rr w0 w' pa pb po l q ok := by
  obtain ⟨h1, ⟨a, m, cap, h2, hl⟩, h3, h4, h5, h6, h7⟩ := h
  exact ⟨hb _ _ (.inl rfl) h1, ⟨a, m, cap, hb _ _ (.inr (.inl rfl)) h2, hl⟩, hb _ _ (.inr (.inr rfl)) h3, h4, hB, h6, h7⟩
theorem Rr.alloc {w0 w : World} {pa pb po : Nat} {l : List UInt8} {q : Nat} {ok : Bool} (h : Rr w0 w pa pb po l q ok) (o : Obj) : Rr w0 (w.alloc o) pa pb po l q ok := h.keep (fun x o _ hx => blk_old hx) (h.below.alloc h.below.size o)
/-- behind an append to a row of structs -/
theorem Rr.app {w0 w w' : World} {pa pb po base sz n : Nat} {l : List UInt8} {q : Nat} {ok : Bool} {t : TypeId} {v : Value} {xs : List Value} (h : Rr w0 w pa pb po l q ok) (ho : w.ownsRow base t sz v n xs) (hbase : w0.heap.size ≤ base) (g : w.grownBy w' v.ownBlock) (h1 : t ≠ 3) (h2 : t ≠ 30) (h3 : t ≠ 4) : Rr w0 w' pa pb po l q ok := by
  obtain ⟨g1, ⟨a, m, cap, g2, hl⟩, g3, g4, g5, g6, g7⟩ := h
  exact ⟨grown_other ho g g1 h1, ⟨a, m, cap, grown_other ho g g2 h2, hl⟩, grown_other ho g g3 h3, g4, g5.trans (below_of_grown g g5.size (fun k hk => Nat.le_trans hbase (ho.lt k hk).1)), g6, g7⟩
theorem Rr.only_own {w0 w w' : World} {pa pb po base sz n : Nat} {l : List UInt8} {q : Nat} {ok : Bool} {t : TypeId} {v : Value} {xs : List Value} (h : Rr w0 w pa pb po l q ok) (hO : Only w w' [pa, po]) (ho : w.ownsRow base t sz v n xs) (h1 : t ≠ 3) (h3 : t ≠ 4) : w'.ownsRow base t sz v n xs := hO.own ho fun x hx => by
  have hx : x = pa ∨ x = po := by simpa using hx
  rcases hx with rfl | rfl
  · exact own_blk_ne ho h.hat h1
  · exact own_blk_ne ho h.hok h3
theorem M1.next {w wo W w5 : World} {l : List UInt8} {N K m kk : Nat} {X : Nat} {t0 t2 t' : Evt.St} {Rs : List Rb} {c cp : Nat} {ea : Option Addr} {ecap q qo : Nat} {ok oko : Bool} {es : List Evt.Ev} {o v5 : Value} {lit : Obj}
    (HEQ : Evt.batches N t0 = (Rs.map Rb.ba ++ ⟨(cp : Int), (Evt.events K t2).1⟩ :: (Evt.batches m (Evt.events K t2).2).1, (Evt.batches m (Evt.events K t2).2).2)) (hle : Rs.length + (m + 1) ≤ 255)
    (hrd : Rr w wo (w.heap.size + 1) w.heap.size (w.heap.size + 2) l qo oko) (hout : wo.ownsRow w.heap.size 52 2 o Rs.length (rbCells Rs)) (hevs : Ro wo w.heap.size Rs)
    (hL : M2 w wo W l X c cp K t2 kk (.slice ea es.length ecap) q ok t' es) (hst : ok = true → kk = 0)
    (o5 : OT (W.alloc lit) w5 o.ownBlock w.heap.size 52 2 v5 (Rs.length + 1) (rbCells Rs ++ [.int .i64 (c : Int), .slice ea es.length ecap])) :
    M1 w w5 l N t0 m v5 q ok (Evt.events K t2).2 (Rs ++ [⟨(c : Int), ea, es.length, ecap, es⟩]) := by
  have hoW : W.ownsRow w.heap.size 52 2 o Rs.length (rbCells Rs) := hrd.only_own hL.only hout (by decide) (by decide)
  have heW : Ro W w.heap.size Rs := hevs.only hL.only (fun x hx => by
    have hx : x = w.heap.size + 1 ∨ x = w.heap.size + 2 := by simpa using hx
    rcases hx with rfl | rfl
    · exact ⟨_, _, _, hrd.hat, by decide⟩
    · exact ⟨_, _, _, hrd.hok, by decide⟩)
  have hev : ok = true → Evt.events K t2 = (es, t') := fun hh => by
    have := hL.eq hh
    rw [Evt.events_stop _ _ (.inl (hst hh)), List.append_nil] at this
    exact this
  refine ⟨⟨fun hh => ?_, fun hh => hL.bad hh⟩, fun hh => ?_, fun hh => ?_, by simp only [List.length_append, List.length_cons, List.length_nil]; omega, ?_, ?_, ?_⟩
  · rw [hev hh]; exact hL.rel.1 hh
  · rw [HEQ, hev hh, List.map_append, List.append_assoc, hL.hc hh]; rfl
  · rw [HEQ, Evt.batches_stop _ _ (.inr (hL.bad hh))]; exact hL.bad hh
  · exact (hL.rd.alloc lit).app (hoW.alloc lit) (Nat.le_refl _) o5.grown (by decide) (by decide) (by decide)
  · have e : (Rs ++ [(⟨(c : Int), ea, es.length, ecap, es⟩ : Rb)]).length = Rs.length + 1 := by simp
    rw [e, rbCells_append]
    exact o5.own
  · have h1 : Ro W w.heap.size (Rs ++ [⟨(c : Int), ea, es.length, ecap, es⟩]) := fun x hx => by
      rcases List.mem_append.1 hx with hx | hx
      · exact heW x hx
      · obtain rfl := List.mem_singleton.1 hx
        exact ⟨hL.own, hL.sz⟩
    have h2 : Ro (W.alloc lit) w.heap.size (Rs ++ [⟨(c : Int), ea, es.length, ecap, es⟩]) := h1.only ((Only.refl W []).alloc lit) (by simp)
    exact h2.grown (hoW.alloc lit) o5.grown (by decide)
/-- One event more. -/
theorem M2.next {w wo W w4 w5 : World} {l : List UInt8} {X c cp K kk q q' : Nat} {t2 t' : Evt.St} {ev v' : Value} {es : List Evt.Ev} {e : Evt.Ev} {ok' : Bool} {lit : Obj}
    (h : M2 w wo W l X c cp K t2 (kk + 1) ev q true t' es) (hXo : wo.heap.size ≤ X) (hX : w.heap.size + 2 < X) (hwo : w.heap.size ≤ wo.heap.size)
    (R4 : Rr w w4 (w.heap.size + 1) w.heap.size (w.heap.size + 2) l q' ok') (rel : Rel l ok' q' (Evt.event t').2) (he : ok' = true → e = (Evt.event t').1) (hX4 : w4.heap[X]? = some (.cells #[.int .i64 (c : Int), ev] 52 (0, 0))) (hown4 : w4.ownsRow w.heap.size 47 3 ev es.length (evCells es)) (O4 : Only wo w4 [w.heap.size + 1, w.heap.size + 2]) (hs : e.s.size ≤ maxLen)
    (o5 : OT (w4.alloc lit) w5 ev.ownBlock w.heap.size 47 3 v' (es.length + 1) (evCells es ++ ev3 e)) :
    w5.heap[X]? = some (.cells #[.int .i64 (c : Int), ev] 52 (0, 0)) ∧ M2 w wo (w5.setCell ⟨X, 1, none⟩ v') l X c cp K t2 kk v' q' ok' (Evt.event t').2 (es ++ [e]) := by
  have hX5 := grown_other (hown4.alloc lit) o5.grown (blk_old hX4) (by decide)
  have hO5 : Only wo w5 [w.heap.size + 1, w.heap.size + 2] := (O4.alloc lit).more o5.grown (fun x hx => .inr (h.new x hx))
  have hOE := hO5.setCell (a := ⟨X, 1, none⟩) (.inr hXo) v'
  have ht := h.rel.1 rfl
  have hev : Evt.events (kk + 1) t' = ((Evt.event t').1 :: (Evt.events kk (Evt.event t').2).1, (Evt.events kk (Evt.event t').2).2) := by
    show (if t'.ok = true then _ else _) = _
    rw [if_pos (by rw [ht])]
  have hR5 := (R4.alloc lit).app (hown4.alloc lit) (Nat.le_refl _) o5.grown (by decide) (by decide) (by decide)
  refine ⟨hX5, ⟨rel, fun hh => ?_, fun hh => ?_, ?_, ?_, fun hh => h.hc rfl, heap_set1 hX5, ?_, ?_, ?_, hOE⟩⟩
  · rw [h.eq rfl, hev, he hh, List.append_assoc]; rfl
  · have e2 : Evt.events K t2 = _ := h.eq rfl
    rw [e2, hev]
    show (Evt.events kk (Evt.event t').2).2.ok = false
    rw [Evt.events_stop _ _ (.inr (rel.2 hh))]; exact rel.2 hh
  · have := h.le
    rw [List.length_append]; simp only [List.length_cons, List.length_nil]; omega
  · refine hR5.keep (fun x o hx ho => ?_) (hR5.below.setCell (by show w.heap.size ≤ X; omega) _)
    rw [Below.heap_setCell _ _ _ _ (fun e => by have e : x = X := e; rcases hx with hx | hx | hx <;> omega)]; exact ho
  · have e2 : (es ++ [e]).length = es.length + 1 := by simp
    rw [e2, evCells_append]
    have e3 : evCells [e] = ev3 e := by unfold evCells; simp
    rw [e3]
    exact ownsRow_setCell_other o5.own (own_blk_ne o5.own hX5 (by decide)) _
  · intro g hg
    have h1 := O4.size
    rcases o5.lies with h3 | h3
    · exact h.new g (by rw [← h3]; exact hg)
    · have := h3 g hg
      simp at this; omega
  · intro e' he'
    rcases List.mem_append.1 he' with he' | he'
    · exact h.sz e' he'
    · rw [List.mem_singleton.1 he']; exact hs
/-- The text was longer than what was left. -/
theorem M2.broke {w wo W w4 : World} {l : List UInt8} {X c cp K kk q q' m' : Nat} {t2 t' : Evt.St} {ev : Value} {es : List Evt.Ev}
    (h : M2 w wo W l X c cp K t2 (kk + 1) ev q true t' es) (R4 : Rr w w4 (w.heap.size + 1) w.heap.size (w.heap.size + 2) l q' false) (hbad : (Evt.event t').2.ok = false)
    (hX4 : w4.heap[X]? = some (.cells #[.int .i64 (c : Int), ev] 52 (0, 0))) (hown4 : w4.ownsRow w.heap.size 47 3 ev es.length (evCells es)) (O4 : Only wo w4 [w.heap.size + 1, w.heap.size + 2]) :
    M2 w wo w4 l X c cp K t2 0 ev q' false (Evt.event t').2 es := by
  have ht := h.rel.1 rfl
  have hev : Evt.events (kk + 1) t' = ((Evt.event t').1 :: (Evt.events kk (Evt.event t').2).1, (Evt.events kk (Evt.event t').2).2) := by
    show (if t'.ok = true then _ else _) = _
    rw [if_pos (by rw [ht])]
  refine ⟨⟨fun hh => (by cases hh), fun _ => hbad⟩, fun hh => (by cases hh), fun _ => ?_, (by have := h.le; omega), R4, fun hh => (by cases hh), hX4, hown4, h.new, h.sz, O4⟩
  have e2 : Evt.events K t2 = _ := h.eq rfl
  rw [e2, hev]
  show (Evt.events kk (Evt.event t').2).2.ok = false
  rw [Evt.events_stop _ _ (.inr hbad)]; exact hbad
theorem Evt.event_past {l : List UInt8} {t' : Evt.St} {q : Nat} (h1 : (Evt.num 1 t').2 = ⟨l.drop q, true⟩) (hq : q ≤ l.length) (h2 : l.length < q + (Evt.num 1 t').1) : (Evt.event t').2.ok = false := by
  unfold Evt.event
  simp only
  refine Evt.num_keeps 3 _ (Evt.num_keeps 1 _ ?_)
  rw [h1]
  exact Evt.take_past hq h2
/-- One round of the inner loop of the reference's Parse: its boxes, and that of the event. -/
structure QE (w wo W : World) (l : List UInt8) (X eb c : Nat) (ev : Value) (es : List Evt.Ev) (q : Nat) (ok : Bool) (a b d : Value) : Prop where
  rd : Rr w W (w.heap.size + 1) w.heap.size (w.heap.size + 2) l q ok
  hev : W.heap[eb]? = some (.cells #[a, b, d] 47 (0, 0))
  bx : W.heap[X]? = some (.cells #[.int .i64 (c : Int), ev] 52 (0, 0))
  own : W.ownsRow w.heap.size 47 3 ev es.length (evCells es)
  ne : ev.ownBlock ≠ some eb
  only : Only wo W [w.heap.size + 1, w.heap.size + 2]
  old : w.heap.size + 2 < eb ∧ wo.heap.size ≤ eb ∧ w.heap.size + 2 < X
theorem QE.cells {w wo W : World} {l : List UInt8} {X eb c : Nat} {ev : Value} {es : List Evt.Ev} {q : Nat} {ok : Bool} {a b d : Value} (h : QE w wo W l X eb c ev es q ok a b d) :
    W.cell? ⟨eb, 0, none⟩ = some a ∧ W.cell? ⟨eb, 1, none⟩ = some b ∧ W.cell? ⟨eb, 2, none⟩ = some d ∧ W.frozen? ⟨eb, 0, none⟩ = false ∧ W.frozen? ⟨eb, 1, none⟩ = false ∧ W.frozen? ⟨eb, 2, none⟩ = false := ⟨blk_cell h.hev, blk_cell h.hev, blk_cell h.hev, blk_free h.hev, blk_free h.hev, blk_free h.hev⟩
theorem QE.setE {w wo W : World} {l : List UInt8} {X eb c : Nat} {ev : Value} {es : List Evt.Ev} {q : Nat} {ok : Bool} {a b d a' b' d' : Value} (h : QE w wo W l X eb c ev es q ok a b d) (i : Nat) (v : Value) (he : (#[a, b, d] : Array Value).setIfInBounds i v = #[a', b', d']) :
    QE w wo (W.setCell ⟨eb, i, none⟩ v) l X eb c ev es q ok a' b' d' := by
  have hold := h.old
  refine ⟨h.rd.keep (fun x o hx ho => ?_) (h.rd.below.setCell (by show w.heap.size ≤ eb; omega) _), ?_, ?_, ownsRow_setCell_other h.own h.ne _, h.ne, h.only.setCell (.inr hold.2.1) _, hold⟩
  · rw [Below.heap_setCell _ _ _ _ (fun e => by have e : x = eb := e; rcases hx with hx | hx | hx <;> omega)]; exact ho
  · rw [heap_setCell_same _ _ _ _ _ _ h.hev, he]
  · rw [Below.heap_setCell _ _ _ _ (heap_ne h.bx h.hev (by decide))]; exact h.bx
theorem QE.setAt {w wo W : World} {l : List UInt8} {X eb c : Nat} {ev : Value} {es : List Evt.Ev} {q : Nat} {ok : Bool} {a b d : Value} (h : QE w wo W l X eb c ev es q ok a b d) (n : Nat) (hn : n ≤ l.length) :
    QE w wo (W.setCell ⟨w.heap.size + 1, 0, none⟩ (.int .i64 (n : Int))) l X eb c ev es n ok a b d := by
  have hold := h.old
  refine ⟨h.rd.setAt n hn, ?_, ?_, ownsRow_setCell_other h.own (own_blk_ne h.own h.rd.hat (by decide)) _, h.ne, h.only.setCell (.inl (by simp)) _, hold⟩
  · rw [Below.heap_setCell _ _ _ _ (heap_ne h.hev h.rd.hat (by decide))]; exact h.hev
  · rw [Below.heap_setCell _ _ _ _ (heap_ne h.bx h.rd.hat (by decide))]; exact h.bx
theorem QE.num {w wo W W' : World} {l : List UInt8} {X eb c : Nat} {ev : Value} {es : List Evt.Ev} {q q' : Nat} {ok ok' : Bool} {a b d : Value} (h : QE w wo W l X eb c ev es q ok a b d) (R : Rr w W' (w.heap.size + 1) w.heap.size (w.heap.size + 2) l q' ok') (O : Only W W' [w.heap.size + 1, w.heap.size + 2]) :
    QE w wo W' l X eb c ev es q' ok' a b d := by
  have hold := h.old
  exact ⟨R, O.blk h.hev (by simp; omega), O.blk h.bx (by simp; omega), h.rd.only_own O h.own (by decide) (by decide), h.ne, h.only.trans' O, hold⟩
/-- how the reference's event comes of its parts -/
theorem Evt.event_of {t' t1 t2 t3 t4 : Evt.St} {n x1 x3 : Nat} {L : List UInt8} (h1 : Evt.num 1 t' = (n, t1)) (h2 : Evt.take n t1 = (L, t2)) (h3 : Evt.num 1 t2 = (x1, t3)) (h4 : Evt.num 3 t3 = (x3, t4)) : Evt.event t' = (⟨⟨L.toArray⟩, x1, x3⟩, t4) := by
  unfold Evt.event
  simp only [h1, h2, h3, h4]

end Go.Proofs.Ytkngfobnfocpjaa
