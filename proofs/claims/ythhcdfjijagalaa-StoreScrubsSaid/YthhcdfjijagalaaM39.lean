/- Joined, and what is not used struck: SpH, SpL, SpN, SpO, SpS, SpJ, SpX. -/
import Derived.Test.YthhcdfjijagalaaM38
import Derived.Test.YthhcdfjijagalaaM37
import Derived.Test.YthhcdfjijagalaaM10
import Derived.Test.YthhcdfjijagalaaM03
import Derived.Test.YthhcdfjijagalaaM26
import Derived.BigRegion
namespace Go.Proofs.Ythhcdfjijagalaa
open Go.RowKit Go.Maps
set_option linter.unusedVariables false
set_option linter.unusedSimpArgs false
set_option maxRecDepth 100000
/-- what is done, with its events' row -/
structure Dod where
  d : Sto.Do
  a : Option Addr
  n : Nat
  cap : Nat
def do9 (x : Dod) : List Value := [.int .i64 x.d.kind, .int .i64 x.d.n, .int .i64 x.d.seg, .int .i64 x.d.t, .int .u8 (x.d.y.toNat : Int), .int .i64 x.d.b.c, .slice x.a x.n x.cap, .string x.d.stream, .int .i64 x.d.ver]
theorem do9_len (x : Dod) : (do9 x).length = 9 := rfl
theorem do9_one (x : Dod) : ∀ u ∈ do9 x, u.oneCell' = true := by
  intro u hu
  simp only [do9, List.mem_cons, List.not_mem_nil, or_false] at hu
  rcases hu with rfl | rfl | rfl | rfl | rfl | rfl | rfl | rfl | rfl <;> rfl
theorem dos_of {w : World} {a : Option Addr} {n cap : Nat} {X : List Dod} (h : Sl w 9 a n cap (rows do9 X)) (he : ∀ x ∈ X, Es w x.a x.n x.cap x.d.b.evs) (hs : ∀ x ∈ X, x.d.stream.size ≤ maxLen) : Dos w a n cap (X.map Dod.d) := by
  have hn : X.length = n := by have := h.len; rw [rows_length do9_len] at this; omega
  refine ⟨h.le, h.max, by rw [List.length_map]; exact hn, fun h0 => ?_⟩
  obtain ⟨b, off, e, hc⟩ := h.addr h0
  refine ⟨b, off, e, fun i hi => ?_⟩
  have hi' : i < X.length := by simpa using hi
  have g : ∀ j, j < 9 → w.cell? ⟨b, off + (i * 9 + j), none⟩ = (do9 X[i])[j]? := fun j hj => by
    have h1 := rows_get do9_len X i j hi' hj
    have hlt : j < (do9 X[i]).length := hj
    rw [List.getElem?_eq_getElem hlt] at h1 ⊢
    exact hc _ _ h1
  have hm := List.getElem_mem hi'
  rw [List.getElem_map]
  exact ⟨g 0 (by omega), g 1 (by omega), g 2 (by omega), g 3 (by omega), g 4 (by omega), g 5 (by omega), ⟨_, _, _, g 6 (by omega), he _ hm⟩, g 7 (by omega), g 8 (by omega), hs _ hm⟩
/-- the store as a value whose rows are slices -/
theorem StM.val {w : World} {base : Nat} {m : Mst} (h : StM w base m) : ∃ da dc ta tc sa sc aa ac, stVal m = .agg #[.int .i64 m.d, .int .i64 m.s, .int .i64 m.b, .slice da m.D.length dc, .int .i64 (m.g : Int), .slice ta m.T.length tc, .slice sa m.seen.length sc, .int .i64 m.u, .slice aa m.A.length ac] ∧
    m.dv = .slice da m.D.length dc ∧ m.tv = .slice ta m.T.length tc ∧ m.sv = .slice sa m.seen.length sc ∧ m.av = .slice aa m.A.length ac := by
  obtain ⟨da, dc, h1, -⟩ := own_sl h.dks
  obtain ⟨ta, tc, h2, -⟩ := own_sl h.tail
  obtain ⟨sa, sc, h3, -⟩ := own_sl h.seen
  obtain ⟨aa, ac, h4, -⟩ := own_sl h.accs
  exact ⟨da, dc, ta, tc, sa, sc, aa, ac, by unfold stVal; rw [h1, h2, h3, h4], h1, h2, h3, h4⟩
set_option maxHeartbeats 2000000 in
theorem put8_call (c : Int) (ea : Option Addr) (en ec : Nat) (evs : List Evt.Ev) (w : World) : Calls Try.prog 33 #[.int .i64 c, .slice ea en ec] w (Grew (doVal (Sto.doPut c evs) ea en ec) w) := by
  unfold doVal Sto.doPut
  simp only
  go_enter Try.func33, Try.ntmps33
  go_wp2_with fail
  have q := blk_new w (.cells #[.int .i64 1, .int .i64 0, .int .i64 0, .int .i64 0, .int .u8 0, .int .i64 c, .slice ea en ec, .string ⟨#[]⟩, .int .i64 (-1)] 29)
  have q0 := blk_cell (i := 0) q
  have q1 := blk_cell (i := 1) q
  have q2 := blk_cell (i := 2) q
  have q3 := blk_cell (i := 3) q
  have q4 := blk_cell (i := 4) q
  have q5 := blk_cell (i := 5) q
  have q6 := blk_cell (i := 6) q
  have q7 := blk_cell (i := 7) q
  have q8 := blk_cell (i := 8) q
  exact bodyPost_ret (v := .agg #[.int .i64 1, .int .i64 0, .int .i64 0, .int .i64 0, .int .u8 0, .int .i64 c, .slice ea en ec, .string ⟨#[]⟩, .int .i64 (-1)]) (by simp [results, Try.results33, go_sem, q0, q1, q2, q3, q4, q5, q6, q7, q8]) rfl ⟨rfl, (Below.refl _ _).alloc (Nat.le_refl _) _⟩
theorem own_one {w : World} {e : TypeId} {cs : Array Value} (n k : Nat) (hs : cs.size = n * k) (hm : n ≤ maxLen) : (w.alloc (.cells cs e)).ownsRow w.heap.size e k (.slice (some ⟨w.heap.size, 0, none⟩) n n) n cs.toList := World.ownsRow_lit w cs n (Nat.le_refl _) hm hs
set_option maxHeartbeats 2000000 in
theorem alive8_call (w : World) : Calls Try.prog 21 #[] w (Grew (.bool true) w) := by
  obtain ⟨s, a1, a2, a3, hP, hs1, he3, hl3⟩ := Sto.alive8_plain
  have H1 := own_sl (own_one (w := w) (e := 32) (cs := #[.string ⟨#[97]⟩, .int .i64 1, .int .i64 0]) 1 3 rfl (by decide))
  obtain ⟨ea, ec, e1, hsl⟩ := H1
  cases e1
  have HE := hid (show Es (w.alloc (.cells #[.string ⟨#[97]⟩, .int .i64 1, .int .i64 0] 32)) (some ⟨w.heap.size, 0, none⟩) 1 1 [⟨Sto.sa, 1, 0⟩] from ⟨hsl, fun e he => by obtain rfl := List.mem_singleton.1 he; decide⟩)
  have B1 := hid ((Below.refl w.heap.size w).alloc (Nat.le_refl _) (.cells #[.string ⟨#[97]⟩, .int .i64 1, .int .i64 0] 32))
  have DP := hid (put8_call 1 (some ⟨w.heap.size, 0, none⟩) 1 1 [⟨Sto.sa, 1, 0⟩] (w.alloc (.cells #[.string ⟨#[97]⟩, .int .i64 1, .int .i64 0] 32)))
  have HP := hid hP
  have HS1 := hid hs1
  have HE3 := hid he3
  have HL3 := hid hl3
  clear hP hs1 he3 hl3 hsl
  go_enter Try.func21, Try.ntmps21
  go_wp2_with fail
  go_at_call 33; refine DP.out.mono ?_; rintro e w1 ⟨rfl, b1⟩
  have bA := hid (bnext B1.out b1)
  have E1 := hid (HE.out.below b1)
  clear DP b1
  unfold doVal Sto.doPut
  simp only
  have h3 := own_sl (own_one (w := w1) (e := 29) (cs := (rows do9 [⟨Sto.doPut 1 [⟨Sto.sa, 1, 0⟩], some ⟨w.heap.size, 0, none⟩, 1, 1⟩, ⟨Sto.doOf 5 0, none, 0, 0⟩, ⟨Sto.doOf 3 0, none, 0, 0⟩]).toArray) 3 9 rfl (by decide))
  obtain ⟨da, dc, e3, hsl3⟩ := h3
  cases e3
  have DD := hid (dos_of hsl3 (fun x hx => by
    simp only [List.mem_cons, List.not_mem_nil, or_false] at hx
    rcases hx with rfl | rfl | rfl
    · exact E1.out.below ((Below.refl _ _).alloc (Nat.le_refl _) _)
    · exact ⟨Sl.none _ _, fun e he => by cases he⟩
    · exact ⟨Sl.none _ _, fun e he => by cases he⟩) (fun x hx => by
    simp only [List.mem_cons, List.not_mem_nil, or_false] at hx
    rcases hx with rfl | rfl | rfl <;> exact (by decide : (⟨#[]⟩ : ByteArray).size ≤ maxLen)))
  have DPL := hid (stPlay_call 2 1 1 _ _ _ _ _ DD.out)
  clear hsl3
  go_wp2_with fail
  go_at_call 19; refine DPL.out.mono ?_; rintro e w2 ⟨m, av, ac, L, er, rfl, hM, hA, hP2, b2⟩
  have hPP := HP.out.symm.trans hP2
  simp only [Prod.mk.injEq] at hPP
  obtain ⟨hp1, hp2, hp3⟩ := hPP
  subst hp3
  obtain ⟨x1, x2, x3, rfl⟩ : ∃ x1 x2 x3, L = [x1, x2, x3] := by
    have hl := congrArg List.length hp2
    rw [List.length_map] at hl
    rcases L with _ | ⟨x1, _ | ⟨x2, _ | ⟨x3, _ | ⟨x4, L⟩⟩⟩⟩ <;> simp at hl
    exact ⟨x1, x2, x3, rfl⟩
  simp only [List.map_cons, List.map_nil, List.cons.injEq, and_true] at hp2
  obtain ⟨-, -, hx3⟩ := hp2
  have hg : m.g = 1 := by have := HS1.out; rw [hp1] at this; exact this
  have hx3e : x3.err = 0 := by have := HE3.out; rw [hx3] at this; exact this
  have hx3l : x3.evs.length = 1 := by have := HL3.out; rw [hx3] at this; exact this
  obtain ⟨va, vc, ta, tc, sa, sc, aa, ac2, hv, -⟩ := hM.val
  obtain ⟨-, hAm⟩ := hA.amv
  obtain ⟨ab, aoff, rfl⟩ := hAm.free (show 0 < 3 by omega)
  obtain ⟨z0, -, z2, -, -⟩ := hAm.at 2 (show 2 < 3 by omega)
  have e2 : ([x1, x2, x3] : List Am)[2] = x3 := rfl
  rw [e2] at z0 z2
  rw [hx3e] at z0
  rw [hx3l] at z2
  rw [hg] at hv
  have bB := bnext (bA.out.alloc bA.out.size _) b2
  have y0 : ∀ o : Obj, (w2.alloc o).cell? ⟨ab, aoff + 2 * 5, none⟩ = some (.int .i64 0) := fun o => calloc z0
  have y2 : ∀ o : Obj, (w2.alloc o).cell? ⟨ab, aoff + 2 * 5 + 2, none⟩ = some (.slice x3.ea 1 x3.ec) := fun o => calloc z2
  simp only [Nat.reduceMul] at y0 y2
  rw [hv]
  clear hv z0 z2 hA hM hAm hP2 hp1 hx3 hx3e hx3l hg b2
  go_wp2_with fail
  go_ret
  exact ⟨rfl, bB.alloc bB.size _⟩
end Go.Proofs.Ythhcdfjijagalaa
namespace Go.Proofs.Ythhcdfjijagalaa
open Go.RowKit Go.Maps
set_option linter.unusedVariables false
set_option linter.unusedSimpArgs false
set_option maxRecDepth 100000
theorem info_Do : (Try.prog.info? 29).map (fun i => (i.zero, i.size, i.bytes)) = some (some (.agg #[.int .i64 0, .int .i64 0, .int .i64 0, .int .i64 0, .int .u8 0, .int .i64 0, .slice none 0 0, .string ⟨#[]⟩, .int .i64 0]), 9, 96) := by kernel_rfl
theorem Es.nil (w : World) : Es w none 0 0 [] := ⟨Sl.none _ _, fun e he => by cases he⟩
end Go.Proofs.Ythhcdfjijagalaa
namespace Go.Proofs.Ythhcdfjijagalaa
open Go.RowKit Go.Maps
set_option linter.unusedVariables false
set_option linter.unusedSimpArgs false
set_option maxRecDepth 100000
/-- an answer's cells, and what they hold -/
structure AnAt (w : World) (b off k : Nat) (y : Am) : Prop where
  c0 : w.cell? ⟨b, off + k * 5, none⟩ = some (.int .i64 y.err)
  c1 : w.cell? ⟨b, off + k * 5 + 1, none⟩ = some (.int .i64 y.n)
  c2 : w.cell? ⟨b, off + k * 5 + 2, none⟩ = some (.slice y.ea y.evs.length y.ec)
  c3 : w.cell? ⟨b, off + k * 5 + 3, none⟩ = some (.int .i64 y.u)
  c4 : w.cell? ⟨b, off + k * 5 + 4, none⟩ = some (.slice y.aa y.accs.length y.ac)
  evs : Es w y.ea y.evs.length y.ec y.evs
  accs : As w y.aa y.accs.length y.ac y.accs
theorem AnAt.below {w w' : World} {b off k : Nat} {y : Am} (h : AnAt w b off k y) (hb : Below w.heap.size w w') : AnAt w' b off k y :=
  have g : ∀ {q : Addr} {v : Value}, w.cell? q = some v → w'.cell? q = some v := fun e => (hb.cell (World.block_lt_of_cell? _ _ e)).trans e
  ⟨g h.c0, g h.c1, g h.c2, g h.c3, g h.c4, h.evs.below hb, h.accs.below hb⟩
theorem Ams.get {w : World} {base : Nat} {a : Option Addr} {n cap : Nat} {L : List Am} {A : List Sto.An} (h : Ams w base (.slice a n cap) L) (hA : A = L.map Am.an) {k : Nat} {x : Sto.An} (hx : A[k]? = some x) :
    ∃ b off y, a = some ⟨b, off, none⟩ ∧ k < L.length ∧ n = L.length ∧ Am.an y = x ∧ AnAt w b off k y := by
  subst hA
  obtain ⟨rfl, hv⟩ := h.amv
  have hk : k < L.length := by
    have := List.getElem?_eq_some_iff.1 hx
    simpa using this.1
  rw [List.getElem?_map, List.getElem?_eq_getElem hk] at hx
  obtain ⟨b, off, rfl⟩ := hv.free (by omega)
  obtain ⟨h0, h1, h2, h3, h4⟩ := hv.at k hk
  exact ⟨b, off, L[k], rfl, hk, rfl, by simpa using hx, h0, h1, h2, h3, h4, hv.evs _ (List.getElem_mem hk), hv.accs _ (List.getElem_mem hk)⟩
end Go.Proofs.Ythhcdfjijagalaa
namespace Go.Proofs.Ythhcdfjijagalaa
open Go.RowKit Go.Maps
set_option linter.unusedVariables false
set_option linter.unusedSimpArgs false
set_option maxRecDepth 100000
/-- what needs no events -/
def bareX (d : Sto.Do) : Dod := ⟨d, none, 0, 0⟩
def Sto.Bare (d : Sto.Do) : Prop := d.b.evs = [] ∧ d.stream = ⟨#[]⟩
theorem bare_of (k n : Int) : Sto.Bare (Sto.doOf k n) := ⟨rfl, rfl⟩
theorem Ams.gets {w : World} {base : Nat} {a : Option Addr} {n cap : Nat} {L : List Am} {A : List Sto.An} (h : Ams w base (.slice a n cap) L) (hA : A = L.map Am.an) (hp : 0 < A.length) :
    ∃ b off, a = some ⟨b, off, none⟩ ∧ n = A.length ∧ L.length = A.length ∧ ∀ k x, A[k]? = some x → ∃ y, Am.an y = x ∧ k < A.length ∧ AnAt w b off k y := by
  subst hA
  obtain ⟨rfl, hv⟩ := h.amv
  rw [List.length_map] at hp ⊢
  obtain ⟨b, off, rfl⟩ := hv.free (by omega)
  refine ⟨b, off, rfl, rfl, rfl, fun k x hx => ?_⟩
  obtain ⟨b', off', y, e, h1, _, h2, h3⟩ := h.get rfl hx
  cases e
  exact ⟨y, h2, h1, h3⟩
end Go.Proofs.Ythhcdfjijagalaa
namespace Go.Proofs.Ythhcdfjijagalaa
open Go.RowKit Go.Maps
set_option linter.unusedVariables false
set_option linter.unusedSimpArgs false
set_option maxRecDepth 100000
theorem heap_alloc (w : World) (o : Obj) : (w.alloc o).heap = w.heap.push o := rfl
theorem cell_far {w : World} {b i b' i' : Nat} {v u : Value} (hne : b ≠ b') (h : w.cell? ⟨b', i', none⟩ = some u) : (w.setCell ⟨b, i, none⟩ v).cell? ⟨b', i', none⟩ = some u := by
  rw [World.cell?_setCell_far w _ _ _ (by simpa using hne)]; exact h
theorem cdrew {w : World} {p : Addr} {u : Value} (h : w.cell? p = some u) : w.drew.cell? p = some u := h
theorem bdrew {w : World} {b : Nat} {o : Obj} (h : w.heap[b]? = some o) : w.drew.heap[b]? = some o := h
theorem heap_drew (w : World) : w.drew.heap = w.heap := rfl
theorem own0 {w : World} {base B : Nat} (hb : base ≤ B) (h : w.heap[B]? = some (.cells #[] 29 (0, 0))) : w.ownsRow base 29 9 (.slice (some ⟨B, 0, none⟩) 0 0) 0 [] :=
  ⟨rfl, .inr ⟨B, 0, #[], rfl, hb, h, Nat.le_refl _, by unfold maxLen; omega, rfl, rfl⟩⟩
theorem lit_kept {w w' : World} {b c n cap : Nat} {o : Obj} (g : w.grownBy w' (Value.slice (some ⟨c, 0, none⟩) n cap).ownBlock) (hne : b ≠ c) (h : w.heap[b]? = some o) : w'.heap[b]? = some o :=
  blk_grown h g (by simpa [Value.ownBlock] using hne)
/-- a literal that lies somewhere -/
theorem lit_at {W : World} {B : Nat} {Y : List Dod} (h : W.heap[B]? = some (.cells (rows do9 Y).toArray 29 (0, 0))) (hl : Y.length ≤ 100) : Src Try.prog 9 34 (.slice (some ⟨B, 0, none⟩) Y.length Y.length) Y.length (rows do9 Y) W := by
  refine Src.ofSlice W Try.underlying34 ⟨B, 0, none⟩ Y.length Y.length (rows do9 Y) (rows_length do9_len Y) (fun j u hj => ?_) (rows_one do9_one Y)
  have h1 : W.cell? ⟨B, j, none⟩ = (rows do9 Y).toArray[j]? := blk_cell h
  have h2 : (⟨B, 0, none⟩ : Addr).add j = ⟨B, j, none⟩ := by simp [Addr.add]; intro h; omega
  rw [h2, h1]; simpa using hj
theorem step_append_k {ops : Array Oper} {o : Oper} {a : Act} {K : Act → World → Prop} {Q : Exit → Act → World → Prop} {E : Prop} {w : World} (hgd : o.guard = none) (s xo : Operand) (t tx : TypeId)
    (ho : o.op = .call { callee := .builtin .append, args := #[s, xo], argTypes := #[t, tx] })
    {w0 : World} {row : Option Nat} (base : Nat) (e : TypeId) (size bytes : Nat) (z : Value) (ht : Try.prog.underlying t = some (.slice e)) (hinfo : (Try.prog.info? e).map (fun i => (i.zero, i.size, i.bytes)) = some (some z, size, bytes)) (hzs : z.cells.size = size) (hsz : 0 < size)
    (v : Value) (n : Nat) (xs : List Value) (hs : a.eval s = v) (hown : OT w0 w row base e size v n xs)
    (x : Value) (m : Nat) (news : List Value) (hxe : a.eval xo = x) (hx : Src Try.prog size tx x m news w)
    (h63 : n + m ≤ maxLen) (hbytes : (n + m) * bytes ≤ 140737488355328) (hbase : base ≤ w.heap.size)
    (h : ∀ v' w', OT w0 w' row base e size v' (n + m) (xs ++ news) → w.grownBy w' v.ownBlock → (∀ (b : Nat) (cs : Array Value) (t' : TypeId) (fr : Nat × Nat), e ≠ t' → w.heap[b]? = some (Obj.cells cs t' fr) → w'.heap[b]? = some (Obj.cells cs t' fr)) → K (a.put o.dst v') w') :
    if Region.wanted o (yielded ops a.tmps) = true then Oper.wp Try.prog o a w K Q else E :=
  step_append_t hgd s xo t tx ho base e size bytes z ht hinfo hzs hsz v n xs hs hown x m news hxe hx h63 hbytes hbase fun v' w' h1 h2 => h v' w' h1 h2 fun b cs t' fr hne hb => grown_other hown.own h2 hb hne
theorem dor_cells {w : World} {b : Nat} (l : List Sto.Do) : ∀ (off : Nat), (∀ (i : Nat) (h : i < l.length), DoR w b (off + i * 9) l[i]) →
    ∃ X : List Dod, X.map Dod.d = l ∧ (∀ x ∈ X, Es w x.a x.n x.cap x.d.b.evs ∧ x.d.stream.size ≤ maxLen) ∧ ∀ j u, (rows do9 X)[j]? = some u → w.cell? ⟨b, off + j, none⟩ = some u := by
  induction l with
  | nil => intro off _; exact ⟨[], rfl, (fun x hx => by cases hx), fun j u h => by simp [rows] at h⟩
  | cons d r ih =>
    intro off h
    have h0 := h 0 (by simp)
    rw [show off + 0 * 9 = off by omega] at h0
    have h0 : DoR w b off d := h0
    obtain ⟨X, hX, hE, hC⟩ := ih (off + 9) (fun i hi => by
      have := h (i + 1) (by simpa using hi)
      rw [show off + (i + 1) * 9 = off + 9 + i * 9 by omega] at this
      exact this)
    obtain ⟨ea, en, ec, h6, hEs⟩ := h0.evs
    refine ⟨⟨d, ea, en, ec⟩ :: X, by rw [List.map_cons, hX], fun x hx => ?_, fun j u hj => ?_⟩
    · rcases List.mem_cons.1 hx with rfl | hx
      · exact ⟨hEs, h0.ok⟩
      · exact hE x hx
    · have e : rows do9 (⟨d, ea, en, ec⟩ :: X) = do9 ⟨d, ea, en, ec⟩ ++ rows do9 X := by simp [rows]
      rw [e] at hj
      rcases Nat.lt_or_ge j 9 with h9 | h9
      · rw [List.getElem?_append_left (by exact h9)] at hj
        have h0' := h0
        obtain ⟨k0, k1, k2, k3, k4, k5, _, k7, k8, _⟩ := h0
        have hh : j = 0 ∨ j = 1 ∨ j = 2 ∨ j = 3 ∨ j = 4 ∨ j = 5 ∨ j = 6 ∨ j = 7 ∨ j = 8 := by omega
        rcases hh with rfl | rfl | rfl | rfl | rfl | rfl | rfl | rfl | rfl <;> (cases hj; assumption)
      · rw [List.getElem?_append_right (by exact h9)] at hj
        have h1 := hC (j - 9) u hj
        rw [show off + 9 + (j - 9) = off + j by omega] at h1
        exact h1
theorem Dos.cells {w : World} {a : Option Addr} {n cap : Nat} {l : List Sto.Do} (h : Dos w a n cap l) : ∃ X : List Dod, X.map Dod.d = l ∧ X.length = n ∧ (∀ x ∈ X, Es w x.a x.n x.cap x.d.b.evs ∧ x.d.stream.size ≤ maxLen) ∧
    ∀ W, Below w.heap.size w W → Src Try.prog 9 34 (.slice a n cap) n (rows do9 X) W := by
  have hcnt := h.cnt
  rcases Nat.eq_zero_or_pos n with rfl | hn
  · obtain rfl : l = [] := List.eq_nil_of_length_eq_zero hcnt
    refine ⟨[], rfl, rfl, (fun x hx => by cases hx), fun W _ => ?_⟩
    cases a with
    | none => exact Src.ofNil W Try.underlying34 cap
    | some p => exact Src.ofSlice W Try.underlying34 p 0 cap [] rfl (fun j u hj => by simp at hj) (fun u hu => by cases hu)
  · obtain ⟨b, off, rfl, hd⟩ := h.addr hn
    obtain ⟨X, hX, hE, hC⟩ := dor_cells l off hd
    have hl : X.length = n := by have := congrArg List.length hX; rw [List.length_map, hcnt] at this; exact this
    have hs : Sl w 9 (some ⟨b, off, none⟩) n cap (rows do9 X) := ⟨h.le, h.max, by rw [rows_length do9_len, hl], (fun e => by cases e), fun _ => ⟨b, off, rfl, hC⟩⟩
    exact ⟨X, hX, hl, hE, fun W hb => Sl.src (hs.below hb) Try.underlying34 (rows_one do9_one X)⟩
/-- behind the appends -/
theorem plus_dos {w1 w5 : World} {base n n5 : Nat} {v5 : Value} {X : List Dod} {l ops : List Sto.Do} (hX : X.map Dod.d = l) (hl : X.length = n) (hE : ∀ x ∈ X, Es w1 x.a x.n x.cap x.d.b.evs ∧ x.d.stream.size ≤ maxLen) (hb : Below w1.heap.size w1 w5) (hm : ∀ d ∈ ops, Sto.Bare d)
    (ho : w5.ownsRow base 29 9 v5 n5 (rows do9 X ++ rows do9 (ops.map bareX))) (hn : n5 = n + ops.length) : ∃ a5 c5, v5 = .slice a5 n5 c5 ∧ Dos w5 a5 n5 c5 (l ++ ops) := by
  obtain ⟨a5, c5, e, hs⟩ := own_sl ho
  rw [← rows_append] at hs
  have h1 := dos_of hs (fun x hx => by
    rcases List.mem_append.1 hx with hx | hx
    · exact (hE x hx).1.below hb
    · obtain ⟨d, hd, rfl⟩ := List.mem_map.1 hx
      show Es w5 none 0 0 d.b.evs
      rw [(hm d hd).1]; exact Es.nil _) (fun x hx => by
    rcases List.mem_append.1 hx with hx | hx
    · exact (hE x hx).2
    · obtain ⟨d, hd, rfl⟩ := List.mem_map.1 hx
      show d.stream.size ≤ maxLen
      rw [(hm d hd).2]; exact (by decide : (⟨#[]⟩ : ByteArray).size ≤ maxLen))
  have e2 : (X ++ ops.map bareX).map Dod.d = l ++ ops := by
    rw [List.map_append, hX, List.map_map]
    congr 1
    exact List.map_id ops
  rw [e2] at h1
  exact ⟨a5, c5, e, h1⟩
end Go.Proofs.Ythhcdfjijagalaa
namespace Go.Proofs.Ythhcdfjijagalaa
open Go.RowKit Go.Maps
set_option linter.unusedVariables false
set_option linter.unusedSimpArgs false
set_option maxRecDepth 100000
theorem sl_rows {α : Type} {f : α → List Value} {k : Nat} (hf : ∀ x, (f x).length = k) {w : World} {a : Option Addr} {n cap : Nat} {l : List α} (h : Sl w k a n cap (rows f l)) (h0 : 0 < n) :
    ∃ b off, a = some ⟨b, off, none⟩ ∧ ∀ (i : Nat) (hi : i < l.length) (j : Nat), j < k → w.cell? ⟨b, off + (i * k + j), none⟩ = (f l[i])[j]? := by
  obtain ⟨b, off, e, hc⟩ := h.addr h0
  refine ⟨b, off, e, fun i hi j hj => ?_⟩
  have h1 := rows_get hf l i j hi hj
  have hlt : j < (f l[i]).length := by rw [hf]; exact hj
  rw [List.getElem?_eq_getElem hlt] at h1 ⊢
  exact hc _ _ h1
end Go.Proofs.Ythhcdfjijagalaa
namespace Go.Proofs.Ythhcdfjijagalaa.Sto
set_option linter.unusedVariables false
/-- what the law of scrubbing asks -/
theorem scrubs_plain {d p b : Int} (hw : wrongS d p b = 0) (l : List Do) {s : St} {a : List An} (hs : s = (run (start d p b) (l ++ [doOf 8 0, doOf 9 0, doOf 8 0])).1) (ha : a = (run (start d p b) (l ++ [doOf 8 0, doOf 9 0, doOf 8 0])).2) :
    ∃ x1 x2 x3, a[l.length]? = some x1 ∧ a[l.length + 1]? = some x2 ∧ a[l.length + 2]? = some x3 ∧ a.length = l.length + 3 ∧ (Once l → x1.err = 0 ∨ x1.err = 10) ∧
      (x1.err = 0 → (∀ y ∈ s.disks, y.gone = false → y.bl.length = s.segs) ∧ x2.n = (((s.disks.filter Dk.gone).length * s.segs : Nat) : Int) ∧ x3.err = 0 ∧ x3.n = 0) ∧ s.disks.length ≤ 12 ∧ s.segs ≤ 40 := by
  obtain ⟨e2, e1⟩ := run_app (start d p b) l [doOf 8 0, doOf 9 0, doOf 8 0]
  have hl := run_len (start d p b) l
  have ho := (Ok.start hw).run l
  have hg := GoneOk.run (GoneOk.start d p b) l
  have hoA := (Ok.start hw).run (l ++ [doOf 8 0, doOf 9 0, doOf 8 0])
  rw [← hs] at hoA
  have hJ : Once l → (scrub (run (start d p b) l).1).2.err = 0 ∨ (scrub (run (start d p b) l).1).2.err = 10 := fun h => by
    have := (J.run hw h l.length (Nat.le_refl _)).scrub_err
    rwa [stt_all] at this
  generalize (run (start d p b) l).1 = S at *
  have s8 : ∀ s : St, step s (doOf 8 0) = scrub s := fun s => step_scrub rfl
  have s9 : ∀ s : St, step s (doOf 9 0) = (s, anN (healthTo s.disks s.segs)) := fun s => rfl
  have er : run S [doOf 8 0, doOf 9 0, doOf 8 0] = ((scrub (scrub S).1).1, [(scrub S).2, anN (healthTo (scrub S).1.disks (scrub S).1.segs), (scrub (scrub S).1).2]) := by
    rw [run_cons, run_cons, run_cons, s8, s9, s8]; rfl
  rw [er] at e1 e2
  rw [e2] at ha
  rw [e1] at hs
  subst hs ha
  refine ⟨(scrub S).2, anN (healthTo (scrub S).1.disks (scrub S).1.segs), (scrub (scrub S).1).2, ?_, ?_, ?_, ?_, hJ, fun he => ?_, ?_, hoA.g⟩
  · rw [List.getElem?_append_right (by omega), hl]; simp
  · rw [List.getElem?_append_right (by omega), hl]; simp
  · rw [List.getElem?_append_right (by omega), hl]; simp
  · rw [List.length_append, hl]; rfl
  · obtain ⟨h1, h2, h3, h4, h5, h6, h7⟩ := scrubbed ho hg he
    refine ⟨fun y hy hgy => by rw [h5]; exact h7 y hy hgy, ?_, h3, h4⟩
    rw [h5, h6, ← h2]; rfl
  · have := hoA.nd
    have := hoA.d
    have := hoA.sp
    omega
end Go.Proofs.Ythhcdfjijagalaa.Sto
namespace Go.Proofs.Ythhcdfjijagalaa
open Go.RowKit Go.Maps
set_option linter.unusedSimpArgs false
set_option maxRecDepth 100000
theorem own_off {V W : World} {base B : Nat} {e t : TypeId} {sz n : Nat} {v : Value} {xs : List Value} {cs : Array Value} (h : V.ownsRow base e sz v n xs) (hO : Only V W [B]) (hB : V.heap[B]? = some (.cells cs t (0, 0))) (hne : e ≠ t) : W.ownsRow base e sz v n xs :=
  hO.own h (fun x hx => by obtain rfl := List.mem_singleton.1 hx; exact own_blk_ne h hB hne)
theorem StM.off {V W : World} {base B : Nat} {m : Mst} {cs : Array Value} (h : StM V base m) (hO : Only V W [B]) (hB : V.heap[B]? = some (.cells cs 44 (0, 0))) : StM W base m :=
  ⟨own_off h.dks hO hB (by decide), fun x hx => own_off (h.held x hx) hO hB (by decide), fun x hx y hy => own_off (h.bytes x hx y hy) hO hB (by decide), own_off h.tail hO hB (by decide), fun r hr => ⟨own_off (h.evs r hr).1 hO hB (by decide), (h.evs r hr).2⟩, own_off h.seen hO hB (by decide), own_off h.accs hO hB (by decide), h.aok⟩
theorem Ams.off {V W : World} {base B : Nat} {v : Value} {L : List Am} {cs : Array Value} (h : Ams V base v L) (hO : Only V W [B]) (hB : V.heap[B]? = some (.cells cs 44 (0, 0))) : Ams W base v L :=
  ⟨own_off h.own hO hB (by decide), fun a ha => ⟨own_off (h.evs a ha).1 hO hB (by decide), (h.evs a ha).2⟩, fun a ha => ⟨own_off (h.accs a ha).1 hO hB (by decide), (h.accs a ha).2⟩⟩
/-- Play's store lies in a box -/
def BoxRes (P : Sto.St × List Sto.An × Int) (w1 W : World) (s5 s6 s7 : Value) : Prop :=
  ∃ (m : Mst) (av : Option Addr) (ac : Nat) (L : List Am) (er : Int) (B base : Nat) (va : Option Addr) (vc : Nat) (ta : Option Addr) (tc : Nat) (sa : Option Addr) (sc : Nat) (aa : Option Addr) (ac2 : Nat),
    s5 = .pointer (some ⟨B, 0, none⟩) ∧ s6 = .slice av L.length ac ∧ s7 = .int .i64 er ∧
    stVal m = .agg #[.int .i64 m.d, .int .i64 m.s, .int .i64 m.b, .slice va m.D.length vc, .int .i64 (m.g : Int), .slice ta m.T.length tc, .slice sa m.seen.length sc, .int .i64 m.u, .slice aa m.A.length ac2] ∧
    W.heap[B]? = some (.cells #[.int .i64 m.d, .int .i64 m.s, .int .i64 m.b, .slice va m.D.length vc, .int .i64 (m.g : Int), .slice ta m.T.length tc, .slice sa m.seen.length sc, .int .i64 m.u, .slice aa m.A.length ac2] 44 (0, 0)) ∧
    StM W base m ∧ Ams W base (.slice av L.length ac) L ∧ P = (m.st, L.map Am.an, er) ∧ Below w1.heap.size w1 W
section
variable {P : Sto.St × List Sto.An × Int} {w1 V : World} {m : Mst} {av : Option Addr} {ac : Nat} {L : List Am} {er : Int} {B base : Nat} {va : Option Addr} {vc : Nat} {ta : Option Addr} {tc : Nat} {sa : Option Addr} {sc : Nat} {aa : Option Addr} {ac2 : Nat}
theorem BoxRes.new (hv : stVal m = .agg #[.int .i64 m.d, .int .i64 m.s, .int .i64 m.b, .slice va m.D.length vc, .int .i64 (m.g : Int), .slice ta m.T.length tc, .slice sa m.seen.length sc, .int .i64 m.u, .slice aa m.A.length ac2])
    (hM : StM V base m) (hA : Ams V base (.slice av L.length ac) L) (hP : P = (m.st, L.map Am.an, er)) (hb : Below w1.heap.size w1 V) :
    BoxRes P w1 (V.alloc (.cells #[.int .i64 m.d, .int .i64 m.s, .int .i64 m.b, .slice va m.D.length vc, .int .i64 (m.g : Int), .slice ta m.T.length tc, .slice sa m.seen.length sc, .int .i64 m.u, .slice aa m.A.length ac2] 44)) (.pointer (some ⟨V.heap.size, 0, none⟩)) (.slice av L.length ac) (.int .i64 er) := by
  have hB := (Below.refl V.heap.size V).alloc (Nat.le_refl _) (.cells #[.int .i64 m.d, .int .i64 m.s, .int .i64 m.b, .slice va m.D.length vc, .int .i64 (m.g : Int), .slice ta m.T.length tc, .slice sa m.seen.length sc, .int .i64 m.u, .slice aa m.A.length ac2] 44)
  exact ⟨m, av, ac, L, er, V.heap.size, base, va, vc, ta, tc, sa, sc, aa, ac2, rfl, rfl, rfl, hv, blk_new _ _, hM.below hB, ⟨own_below hA.own hB, fun a ha => ⟨own_below (hA.evs a ha).1 hB, (hA.evs a ha).2⟩, fun a ha => ⟨own_below (hA.accs a ha).1 hB, (hA.accs a ha).2⟩⟩, hP, bnext hb hB⟩
theorem BoxRes.old {x0 x1 x2 x3 x4 x5 x6 x7 x8 : Value} (hq : V.heap[B]? = some (.cells #[x0, x1, x2, x3, x4, x5, x6, x7, x8] 44 (0, 0))) (hle : w1.heap.size ≤ B)
    (hv : stVal m = .agg #[.int .i64 m.d, .int .i64 m.s, .int .i64 m.b, .slice va m.D.length vc, .int .i64 (m.g : Int), .slice ta m.T.length tc, .slice sa m.seen.length sc, .int .i64 m.u, .slice aa m.A.length ac2])
    (hM : StM V base m) (hA : Ams V base (.slice av L.length ac) L) (hP : P = (m.st, L.map Am.an, er)) (hb : Below w1.heap.size w1 V) :
    BoxRes P w1 (((((((((V.setCell ⟨B, 0, none⟩ (.int .i64 m.d)).setCell ⟨B, 1, none⟩ (.int .i64 m.s)).setCell ⟨B, 2, none⟩ (.int .i64 m.b)).setCell ⟨B, 3, none⟩ (.slice va m.D.length vc)).setCell ⟨B, 4, none⟩ (.int .i64 (m.g : Int))).setCell ⟨B, 5, none⟩ (.slice ta m.T.length tc)).setCell ⟨B, 6, none⟩ (.slice sa m.seen.length sc)).setCell ⟨B, 7, none⟩ (.int .i64 m.u)).setCell ⟨B, 8, none⟩ (.slice aa m.A.length ac2))
      (.pointer (some ⟨B, 0, none⟩)) (.slice av L.length ac) (.int .i64 er) := by
  obtain ⟨W, hW, hWB, hbW, hO⟩ := set9_facts hb hle hq (.int .i64 m.d) (.int .i64 m.s) (.int .i64 m.b) (.slice va m.D.length vc) (.int .i64 (m.g : Int)) (.slice ta m.T.length tc) (.slice sa m.seen.length sc) (.int .i64 m.u) (.slice aa m.A.length ac2)
  rw [hW]
  exact ⟨m, av, ac, L, er, B, base, va, vc, ta, tc, sa, sc, aa, ac2, rfl, rfl, rfl, hv, hWB, hM.off hO hq, hA.off hO hq, hP, hbW⟩
end
end Go.Proofs.Ythhcdfjijagalaa
