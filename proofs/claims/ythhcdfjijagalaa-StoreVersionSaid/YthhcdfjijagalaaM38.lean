/- Joined, and what is not used struck: OpD, SpF, EventG, ViewH, SpG. -/
import Derived.Test.YthhcdfjijagalaaM10
import Derived.Test.YthhcdfjijagalaaM35
import Derived.Test.YthhcdfjijagalaaM37
import Derived.Test.YthhcdfjijagalaaM24
import Derived.Test.YthhcdfjijagalaaM03
import Derived.Test.YthhcdfjijagalaaM26
import Derived.Test.YthhcdfjijagalaaM11
import Derived.DeepKeys4
namespace Go.Proofs.Ythhcdfjijagalaa
open Go.ChangeShapes Go.WideShapes Go.ChangeAt Go.RowKit Go.Joins Go.Deep
set_option linter.unusedVariables false
/-- numbers that fit -/
structure Fits (d : Sto.Do) : Prop where
  c : -9223372036854775808 ≤ d.b.c ∧ d.b.c ≤ 9223372036854775807
  n : -9223372036854775808 ≤ d.n ∧ d.n ≤ 9223372036854775807
  seg : -9223372036854775808 ≤ d.seg ∧ d.seg ≤ 9223372036854775807
section
variable {H : Type} {enc : TypeId × Value → H} {w : World} {base : Nat} {spare : Nat → Bool} {held : Bool}
set_option maxRecDepth 100000 in
theorem open_setup {b0 : Nat} {v : Value} {d : DataW H} {p : List MemPlace} (hv : Value.okWide Try.prog w .any b0 37 v)
    (h : DataW.Trod enc Try.prog w base spare held 37 v d p) : ∃ x y z : Int, v = .agg #[.int .i64 x, .int .i64 y, .int .i64 z] := by
  obtain ⟨v0, v1, v2, y0, y1, y2, n, rfl, rfl, rfl, h0, h1, h2⟩ := open_agg3 Try.underlying37 (by kernel_rfl) (by kernel_rfl) hv h
  obtain ⟨s, e0, _, _⟩ := DataW.trod_int Try.underlying3 h0
  obtain ⟨k, e1, _, _⟩ := DataW.trod_int Try.underlying3 h1
  obtain ⟨m, e2, _, _⟩ := DataW.trod_int Try.underlying3 h2
  simp at e0 e1 e2
  subst e0 e1 e2
  exact ⟨s, k, m, rfl⟩
theorem nine {α : Type} {l : List α} (h : l.length = 9) : ∃ a b c d e f g i j, l = [a, b, c, d, e, f, g, i, j] := by
  rcases l with _ | ⟨a, _ | ⟨b, _ | ⟨c, _ | ⟨d, _ | ⟨e, _ | ⟨f, _ | ⟨g, _ | ⟨i, _ | ⟨j, _ | ⟨k, l⟩⟩⟩⟩⟩⟩⟩⟩⟩⟩ <;> simp at h
  exact ⟨a, b, c, d, e, f, g, i, j, rfl⟩
theorem u8_of {a : Int} (h : (Lit.int .u8 a).wf = true) : ∃ y : UInt8, a = (y.toNat : Int) := by
  obtain ⟨h0, h1⟩ := u8_bounds h
  refine ⟨UInt8.ofNat a.toNat, ?_⟩
  rw [UInt8.toNat_ofNat']
  omega
set_option maxRecDepth 100000 in
theorem open_do {k : Nat} {cs : List Value} {x : DataW H × List MemPlace} (hlen : cs.length = 9) (h : DataW.trod enc Try.prog w base spare held k 29 cs = some x) :
    ∃ (d : Sto.Do) (a : Option Addr) (n cap : Nat), cs = [.int .i64 d.kind, .int .i64 d.n, .int .i64 d.seg, .int .i64 d.t, .int .u8 (d.y.toNat : Int), .int .i64 d.b.c, .slice a n cap, .string d.stream, .int .i64 d.ver] ∧ Es w a n cap d.b.evs ∧ d.stream.size ≤ maxLen ∧ Fits d := by
  obtain ⟨c0, c1, c2, c3, c4, c5, c6, c7, c8, rfl⟩ := nine hlen
  obtain ⟨ys, k', _, _, _, hyl, hfs⟩ := DataW.trod_struct Try.underlying29 h
  have hyl : ys.length = 8 := hyl
  have hI : Try.prog.cellsOf 3 = 1 := by kernel_rfl
  have hU : Try.prog.cellsOf 5 = 1 := by kernel_rfl
  have hS : Try.prog.cellsOf 9 = 1 := by kernel_rfl
  have hB : Try.prog.cellsOf 27 = 2 := by kernel_rfl
  have hE : Try.prog.cellsOf 25 = 1 := by kernel_rfl
  have hy : ∀ j (hj : j < 8), ys[j]? = some (ys[j]'(by omega)) := fun j hj => List.getElem?_eq_getElem (by omega)
  have t0 := (hfs 0 _ rfl).trans (hy 0 (by omega))
  have t1 := (hfs 1 _ rfl).trans (hy 1 (by omega))
  have t2 := (hfs 2 _ rfl).trans (hy 2 (by omega))
  have t3 := (hfs 3 _ rfl).trans (hy 3 (by omega))
  have t4 := (hfs 4 _ rfl).trans (hy 4 (by omega))
  have t5 := (hfs 5 _ rfl).trans (hy 5 (by omega))
  have t6 := (hfs 6 _ rfl).trans (hy 6 (by omega))
  have t7 := (hfs 7 _ rfl).trans (hy 7 (by omega))
  change DataW.trod enc Try.prog w base spare held k' 3 (List.take (Try.prog.cellsOf 3) _) = _ at t0 t1 t2 t3 t7
  change DataW.trod enc Try.prog w base spare held k' 5 (List.take (Try.prog.cellsOf 5) _) = _ at t4
  change DataW.trod enc Try.prog w base spare held k' 27 (List.take (Try.prog.cellsOf 27) _) = _ at t5
  change DataW.trod enc Try.prog w base spare held k' 9 (List.take (Try.prog.cellsOf 9) _) = _ at t6
  rw [hI] at t0 t1 t2 t3 t7
  rw [hU] at t4
  rw [hB] at t5
  rw [hS] at t6
  change DataW.trod enc Try.prog w base spare held k' 3 [c0] = _ at t0
  change DataW.trod enc Try.prog w base spare held k' 3 [c1] = _ at t1
  change DataW.trod enc Try.prog w base spare held k' 3 [c2] = _ at t2
  change DataW.trod enc Try.prog w base spare held k' 3 [c3] = _ at t3
  change DataW.trod enc Try.prog w base spare held k' 5 [c4] = _ at t4
  change DataW.trod enc Try.prog w base spare held k' 27 [c5, c6] = _ at t5
  change DataW.trod enc Try.prog w base spare held k' 9 [c7] = _ at t6
  change DataW.trod enc Try.prog w base spare held k' 3 [c8] = _ at t7
  obtain ⟨zs, k2, _, _, _, hzl, hgs⟩ := DataW.trod_struct Try.underlying27 t5
  have hzl : zs.length = 2 := hzl
  have hz : ∀ j (hj : j < 2), zs[j]? = some (zs[j]'(by omega)) := fun j hj => List.getElem?_eq_getElem (by omega)
  have s0 := (hgs 0 _ rfl).trans (hz 0 (by omega))
  have s1 := (hgs 1 _ rfl).trans (hz 1 (by omega))
  change DataW.trod enc Try.prog w base spare held k2 3 (List.take (Try.prog.cellsOf 3) _) = _ at s0
  change DataW.trod enc Try.prog w base spare held k2 25 (List.take (Try.prog.cellsOf 25) _) = _ at s1
  rw [hI] at s0
  rw [hE] at s1
  change DataW.trod enc Try.prog w base spare held k2 3 [c5] = _ at s0
  change DataW.trod enc Try.prog w base spare held k2 25 [c6] = _ at s1
  obtain ⟨g0, e0, _, _⟩ := DataW.trod_int Try.underlying3 t0
  obtain ⟨g1, e1, _, w1⟩ := DataW.trod_int Try.underlying3 t1
  obtain ⟨g2, e2, _, w2⟩ := DataW.trod_int Try.underlying3 t2
  obtain ⟨g3, e3, _, _⟩ := DataW.trod_int Try.underlying3 t3
  obtain ⟨g4, e4, _, w4⟩ := DataW.trod_int Try.underlying5 t4
  obtain ⟨g5, e5, _, w5⟩ := DataW.trod_int Try.underlying3 s0
  obtain ⟨a, n, cap, l, e6, hEs⟩ := open_events s1
  obtain ⟨g7, e7, _, hs⟩ := DataW.trod_string Try.underlying9 t6
  obtain ⟨g8, e8, _, _⟩ := DataW.trod_int Try.underlying3 t7
  obtain ⟨y, rfl⟩ := u8_of w4
  simp at e0 e1 e2 e3 e4 e5 e7 e8
  subst e0 e1 e2 e3 e4 e5 e6 e7 e8
  exact ⟨⟨g0, g1, g2, g3, y, ⟨g5, l⟩, g7, g8⟩, a, n, cap, rfl, hEs, hs, ⟨i64_bounds' w5, i64_bounds' w1, i64_bounds' w2⟩⟩
set_option maxRecDepth 100000 in
theorem open_dos {fuel : Nat} {v : Value} {x : DataW H × List MemPlace} (h : DataW.trod enc Try.prog w base spare held fuel 34 [v] = some x) : ∃ a n cap l, v = .slice a n cap ∧ Dos w a n cap l ∧ ∀ d ∈ l, Fits d := by
  rcases open_slice Try.underlying34 h with ⟨h0, _⟩ | ⟨a, n, cap, m, k, D, Pl, hcs, _, hl, hm, hmm, _, hi⟩
  · obtain rfl : v = .slice none 0 0 := by simpa using h0
    exact ⟨none, 0, 0, [], rfl, ⟨Nat.le_refl _, Nat.zero_le _, rfl, fun h => absurd h (by omega)⟩, fun d hd => by cases hd⟩
  · obtain rfl : v = .slice (some a) n cap := by simpa using hcs
    have hC : Try.prog.cellsOf 29 = 9 := by kernel_rfl
    rcases Nat.eq_zero_or_pos n with h0 | h0
    · subst h0
      exact ⟨some a, 0, cap, [], rfl, ⟨hl, hm, rfl, fun h => absurd h (by omega)⟩, fun d hd => by cases hd⟩
    · have hsp : ∃ b off, a = ⟨b, off, none⟩ := by
        obtain ⟨cs', h1, h2⟩ := hi 0 (by rw [hmm]; split <;> omega)
        rw [hC] at h1
        obtain ⟨_, hlen, hat⟩ := World.cells?_some h1
        obtain ⟨d, ea, en, ec, rfl, hE, hs, hfit⟩ := open_do hlen h2
        have c0 := hat 0 (by omega)
        rw [Nat.zero_mul] at c0
        obtain ⟨b, off, spot⟩ := a
        have hspot : spot = none := by
          have := World.cell?_spot c0
          unfold Addr.add at this
          simpa using this
        exact ⟨b, off, by rw [hspot]⟩
      obtain ⟨b, off, rfl⟩ := hsp
      have hp : ∀ i, i < n → ∃ d : Sto.Do, DoR w b (off + i * 9) d ∧ Fits d := by
        intro i hin
        have him : i < m := by rw [hmm]; split <;> omega
        obtain ⟨cs', h1, h2⟩ := hi i him
        rw [hC] at h1
        obtain ⟨_, hlen, hat⟩ := World.cells?_some h1
        obtain ⟨d, ea, en, ec, rfl, hE, hs, hfit⟩ := open_do hlen h2
        have hat : ∀ j, j < 9 → w.cell? ⟨b, off + i * 9 + j, none⟩ = [Value.int .i64 d.kind, .int .i64 d.n, .int .i64 d.seg, .int .i64 d.t, .int .u8 (d.y.toNat : Int), .int .i64 d.b.c, .slice ea en ec, .string d.stream, .int .i64 d.ver][j]? := fun j hj => by
          have := hat j hj
          rwa [add_off, add_off] at this
        exact ⟨d, ⟨hat 0 (by omega), hat 1 (by omega), hat 2 (by omega), hat 3 (by omega), hat 4 (by omega), hat 5 (by omega), ⟨ea, en, ec, hat 6 (by omega), hE⟩, hat 7 (by omega), hat 8 (by omega), hs⟩, hfit⟩
      have : Inhabited Sto.Do := ⟨⟨0, 0, 0, 0, 0, ⟨0, []⟩, ⟨#[]⟩, 0⟩⟩
      obtain ⟨V, hV⟩ := choose_lt (α := Sto.Do) hp
      refine ⟨_, n, cap, (List.range n).map V, rfl, ⟨hl, hm, by simp, fun _ => ⟨b, off, rfl, fun i hil => ?_⟩⟩, fun d hd => ?_⟩
      · have hin : i < n := by simpa using hil
        simpa using (hV i hin).1
      · obtain ⟨i, hi, rfl⟩ := List.mem_map.1 hd
        exact (hV i (List.mem_range.1 hi)).2
end
end Go.Proofs.Ythhcdfjijagalaa
namespace Go.Proofs.Ythhcdfjijagalaa
open Go.RowKit Go.Maps
set_option linter.unusedVariables false
set_option linter.unusedSimpArgs false
set_option linter.unusedSectionVars false
set_option maxRecDepth 100000
section
variable {α : Type} [DecidableEq α]
structure Hg (kt : TypeId) (mk : α → Value) (w : World) (b n : Nat) (f : α → Bool) (D : DataW Unit) : Prop where
  own : w.ownsMap Try.prog kt (plainElem (H := Unit) Try.prog 4) b n D
  at_ : ∀ u l, keyOf Try.prog kt (mk u) = some l → D.atKey l (.lit (.bool false)) = .lit (.bool (f u))
variable {kt : TypeId} {mk : α → Value} {w w' : World} {b n n' : Nat} {f : α → Bool} {D : DataW Unit}
theorem Hg.start (w : World) : Hg kt mk (w.alloc (.map #[] 0)) w.heap.size 0 (fun _ => false) (.map []) := ⟨World.ownsMap_made _ _ _ _, fun u l _ => rfl⟩
theorem Hg.look (h : Hg kt mk w b n f D) (K : Keyed Try.prog kt) {mt : TypeId} (ht : Try.prog.underlying mt = some (.map kt 4)) {u : α} {l : Lit} (hk : keyOf Try.prog kt (mk u) = some l) : (Instr.lookup mt (.map (some b)) (mk u) false).run Try.prog w = .ok (.bool (f u)) w := by
  obtain ⟨v, ps, hrun, hv⟩ := h.own.lookup K ht (z := .bool false) (by kernel_rfl) (plainElem_bool Try.underlying4 false) hk
  rw [h.at_ u l hk] at hv
  obtain ⟨x, rfl, e⟩ := plainElem_bool_inv hv
  simp at e
  rw [hrun, e.1]
theorem Hg.put (h : Hg kt mk w b n f D) (K : Keyed Try.prog kt) (inj : ∀ u v : α, mk u = mk v → u = v) {u : α} {l : Lit} {x : Bool} (hk : keyOf Try.prog kt (mk u) = some l) (ho : w'.ownsMap Try.prog kt (plainElem (H := Unit) Try.prog 4) b n' (D.put l (.lit (.bool x)))) :
    Hg kt mk w' b n' (fun v => if v = u then x else f v) (D.put l (.lit (.bool x))) := by
  refine ⟨ho, fun v l' hl' => ?_⟩
  by_cases e : v = u
  · subst e
    rw [hk] at hl'
    injection hl' with hl'
    subst hl'
    rw [atKey_put_same h.own.isMap (K.key hk)]
    simp
  · have hne : l' ≠ l := fun e2 => by
      subst e2
      exact e (inj _ _ (K.inj hl' hk))
    rw [atKey_put_other hne, h.at_ v l' hl']
    simp [e]
theorem Hg.kept {q : Option Nat} (h : Hg kt mk w b n f D) (hg : w.grownBy w' q) (hq : some b ≠ q) : Hg kt mk w' b n f D := ⟨h.own.kept hg hq, h.at_⟩
theorem Hg.congr {g : α → Bool} (h : Hg kt mk w b n f D) (e : ∀ u, f u = g u) : Hg kt mk w b n g D := by
  have : f = g := funext e
  subst this; exact h
theorem Hg.blk (h : Hg kt mk w b n f D) : ∃ es c, w.heap[b]? = some (.map es c) := by
  obtain ⟨es, c, hb, _⟩ := h.own
  exact ⟨es, c, hb⟩
theorem hg_row {base : Nat} {e : TypeId} {sz m : Nat} {o : Value} {xs : List Value} (hown : w.ownsRow base e sz o m xs) (h : Hg kt mk w b n f D) : o.ownBlock ≠ some b := by
  intro he
  obtain ⟨es, c, hb⟩ := h.blk
  rcases hown.2 with ⟨rfl, _⟩ | ⟨g, cap, cur, rfl, _, hh, _⟩
  · simp [Value.ownBlock] at he
  · have : g = b := by simpa [Value.ownBlock] using he
    subst this
    rw [hb] at hh
    cases hh
end
def mkI (c : Int) : Value := .int .i64 c
theorem mkI_inj : ∀ u v : Int, mkI u = mkI v → u = v := fun u v e => by injection e
theorem key_int {c : Int} (h : -9223372036854775808 ≤ c ∧ c ≤ 9223372036854775807) : keyOf Try.prog 3 (mkI c) = some (.int .i64 c) := keyOf_int_mk Try.underlying3 (WalkArith.wf_i64 h)
/-! ### answers that are read -/
structure Amv (w : World) (a : Option Addr) (n cap : Nat) (L : List Am) : Prop where
  sl : Sl w 5 a n cap (rows am5 L)
  cnt : L.length = n
  evs : ∀ x ∈ L, Es w x.ea x.evs.length x.ec x.evs
  accs : ∀ x ∈ L, As w x.aa x.accs.length x.ac x.accs
theorem Amv.below {w w' : World} {a : Option Addr} {n cap : Nat} {L : List Am} (h : Amv w a n cap L) (hb : Below w.heap.size w w') : Amv w' a n cap L :=
  ⟨h.sl.below hb, h.cnt, fun x hx => (h.evs x hx).below hb, fun x hx => (h.accs x hx).below hb⟩
theorem Ams.amv {w : World} {base : Nat} {a : Option Addr} {n cap : Nat} {L : List Am} (h : Ams w base (.slice a n cap) L) : n = L.length ∧ Amv w a n cap L := by
  obtain ⟨a', c', e, hs⟩ := own_sl h.own
  cases e
  exact ⟨rfl, hs, rfl, fun x hx => (h.evs x hx).es, fun x hx => (h.accs x hx).as⟩
theorem Amv.at {w : World} {b off n cap : Nat} {L : List Am} (h : Amv w (some ⟨b, off, none⟩) n cap L) (i : Nat) (hi : i < L.length) :
    w.cell? ⟨b, off + i * 5, none⟩ = some (.int .i64 L[i].err) ∧ w.cell? ⟨b, off + i * 5 + 1, none⟩ = some (.int .i64 L[i].n) ∧ w.cell? ⟨b, off + i * 5 + 2, none⟩ = some (.slice L[i].ea L[i].evs.length L[i].ec) ∧ w.cell? ⟨b, off + i * 5 + 3, none⟩ = some (.int .i64 L[i].u) ∧ w.cell? ⟨b, off + i * 5 + 4, none⟩ = some (.slice L[i].aa L[i].accs.length L[i].ac) := by
  have hn := h.cnt
  have g : ∀ j, j < 5 → w.cell? ⟨b, off + (i * 5 + j), none⟩ = (am5 L[i])[j]? := fun j hj => by
    have h1 := rows_get am5_len L i j hi hj
    obtain ⟨b', off', e, hc⟩ := h.sl.addr (by omega)
    cases e
    have hlt : j < (am5 L[i]).length := hj
    rw [List.getElem?_eq_getElem hlt] at h1 ⊢
    exact hc _ _ h1
  exact ⟨g 0 (by omega), g 1 (by omega), g 2 (by omega), g 3 (by omega), g 4 (by omega)⟩
theorem Amv.free {w : World} {a : Option Addr} {n cap : Nat} {L : List Am} (h : Amv w a n cap L) (hn : 0 < n) : ∃ b off, a = some ⟨b, off, none⟩ := by
  obtain ⟨b, off, e, _⟩ := h.sl.addr hn
  exact ⟨b, off, e⟩
theorem Dos.evOk {w : World} {a : Option Addr} {n cap : Nat} {l : List Sto.Do} (h : Dos w a n cap l) : ∀ d ∈ l, ∀ e ∈ d.b.evs, e.s.size ≤ maxLen := by
  intro d hd e he
  obtain ⟨i, hi, rfl⟩ := List.getElem_of_mem hd
  have hn := h.cnt
  obtain ⟨b, off, _, hx⟩ := h.addr (by omega)
  obtain ⟨_, _, _, _, hE⟩ := (hx i hi).evs
  exact hE.ok e he
theorem Sto.toldTo_all (l : List Sto.Do) (A : List Sto.An) (P : Evt.Ev → Prop) (h : ∀ d ∈ l, ∀ e ∈ d.b.evs, P e) : ∀ k, ∀ e ∈ (Sto.toldTo l A k).2, P e
  | 0 => fun e he => by cases he
  | k + 1 => by
    have ih := Sto.toldTo_all l A P h k
    have hun : Sto.toldTo l A (k + 1) = (match l[k]?, A[k]? with
      | some d, some x => if d.kind = 1 ∧ x.err = 0 ∧ ¬ d.b.c ∈ (Sto.toldTo l A k).1 then ((Sto.toldTo l A k).1 ++ [d.b.c], (Sto.toldTo l A k).2 ++ d.b.evs) else Sto.toldTo l A k
      | _, _ => Sto.toldTo l A k) := rfl
    intro e he
    rw [hun] at he
    split at he
    · rename_i d x h1 h2
      split at he
      · rcases List.mem_append.1 he with he | he
        · exact ih e he
        · exact h d (List.mem_of_getElem? h1) e he
      · exact ih e he
    · exact ih e he
theorem Sto.toldTo_len (l : List Sto.Do) (A : List Sto.An) (h : ∀ (i : Nat) (d : Sto.Do) (x : Sto.An), l[i]? = some d → A[i]? = some x → d.kind = 1 → x.err = 0 → d.b.evs.length ≤ 10) : ∀ k, (Sto.toldTo l A k).2.length ≤ k * 10
  | 0 => Nat.le_refl _
  | k + 1 => by
    have ih := Sto.toldTo_len l A h k
    cases h1 : l[k]? with
    | none =>
      have : Sto.toldTo l A (k + 1) = Sto.toldTo l A k := by
        show (match l[k]?, A[k]? with
          | some d, some x => _
          | _, _ => Sto.toldTo l A k) = _
        rw [h1]
      rw [this]; omega
    | some d =>
      cases h2 : A[k]? with
      | none =>
        have : Sto.toldTo l A (k + 1) = Sto.toldTo l A k := by
          show (match l[k]?, A[k]? with
            | some d, some x => _
            | _, _ => Sto.toldTo l A k) = _
          rw [h1, h2]
        rw [this]; omega
      | some x =>
        rw [Sto.toldTo_succ h1 h2]
        split
        · rename_i hc
          have := h k d x h1 h2 hc.1 hc.2.1
          show ((Sto.toldTo l A k).2 ++ d.b.evs).length ≤ _
          rw [List.length_append]; omega
        · omega
set_option maxHeartbeats 4000000 in
theorem told8_call (a : Option Addr) (n cap : Nat) (l : List Sto.Do) (av : Option Addr) (am ac : Nat) (L : List Am) (u : Nat) (w : World) (hD : Dos w a n cap l) (hA : Amv w av am ac L) (hu : u ≤ n) (hu2 : u ≤ am) (hn : u ≤ 100) (hF : ∀ d ∈ l, Fits d)
    (h10 : ∀ (i : Nat) (d : Sto.Do) (x : Sto.An), l[i]? = some d → (L.map Am.an)[i]? = some x → d.kind = 1 → x.err = 0 → d.b.evs.length ≤ 10) :
    Calls Try.prog 24 #[.slice a n cap, .slice av am ac, .int .i64 (u : Int)] w fun e w' => ∃ oa oc, e = .returned (.slice oa (Sto.toldTo l (L.map Am.an) u).2.length oc) ∧ EO w' w.heap.size oa oc (Sto.toldTo l (L.map Am.an) u).2 ∧ Below w.heap.size w w' := by
  have HN := hid hD.cnt
  have HM := hid hA.cnt
  have HL := hid (Sto.toldTo_len l (L.map Am.an) h10)
  have HS := hid (fun (k : Nat) (hk : k < l.length) (hk2 : k < L.length) => Sto.toldTo_succ (l := l) (a := L.map Am.an) (k := k) (d := l[k]) (x := L[k].an) (List.getElem?_eq_getElem hk) (by rw [List.getElem?_map, List.getElem?_eq_getElem hk2]; rfl))
  have H0 := hid (show Sto.toldTo l (L.map Am.an) 0 = ([], []) from rfl)
  have HOK := hid (show ∀ k, ∀ e ∈ (Sto.toldTo l (L.map Am.an) k).2, e.s.size ≤ maxLen from fun k => Sto.toldTo_all l (L.map Am.an) (fun e => e.s.size ≤ maxLen) hD.evOk k)
  have H10 := hid h10
  have HF := hid hF
  have HD := hid hD
  have HA := hid hA
  clear hD hA h10 hF
  generalize Sto.toldTo l (L.map Am.an) = T at *
  have hmm := @run_makeMap Try.prog
  have M0 := Hg.start (kt := 3) (mk := mkI) w
  have O0 : OT w (w.alloc (.map #[] 0)) none w.heap.size 32 3 (.slice none 0 0) 0 [] := OT.fresh (World.ownsRow_nil _ _ _ _) ((Below.refl _ _).alloc (Nat.le_refl _) _) (Nat.le_refl _)
  go_enter Try.func24, Try.ntmps24
  go_wp2_with fail
  go_loopg [7, 13] u (fun g s7 s13 wr => ∃ (k : Nat) (DD : DataW Unit), g = u - k ∧ k ≤ u ∧ s13 = .int .i64 (k : Int) ∧ OT w wr none w.heap.size 32 3 s7 (T k).2.length (evCells (T k).2) ∧ Hg 3 mkI wr w.heap.size k (fun c => decide (c ∈ (T k).1)) DD ∧ w.heap.size < wr.heap.size)
  case atStart => exact ⟨0, .map [], rfl, by omega, rfl, by rw [H0.out]; exact O0, by rw [H0.out]; exact M0.congr (fun u => by simp), by simp⟩
  case round =>
    clear M0 O0 hmm
    obtain ⟨k, DD, rfl, hk, rfl, hO, hM, hsz⟩ := hrel
    obtain ⟨wo, rfl⟩ : ∃ wo : World, wo = wr := ⟨_, rfl⟩
    have hbo := hO.belowOf (Nat.le_refl _) (fun k e => by cases e)
    by_cases hlt : k < u
    · have hkl : k < l.length := by rw [HN.out]; omega
      have hkL : k < L.length := by rw [HM.out]; omega
      obtain ⟨db, off, rfl, hdo⟩ := HD.out.addr (by omega)
      obtain ⟨ab, aoff, rfl⟩ := HA.out.free (by omega)
      have HDK := hid (fun (W : World) (hW : Below w.heap.size w W) => (hdo k hkl).below hW)
      have hd := HDK.out _ hbo
      obtain ⟨x0, -, -, -, -⟩ := (HA.out.below hbo).at k hkL
      have c0 := hd.kind
      have c5 := hd.c
      obtain ⟨ea, en, ec, c6, hE⟩ := hd.evs
      have hfit := (HF.out l[k] (List.getElem_mem _)).c
      have hstep := HS.out k hkl hkL
      have hlen := HL.out k
      have h10k := hid (H10.out k l[k] L[k].an (List.getElem?_eq_getElem hkl) (by rw [List.getElem?_map, List.getElem?_eq_getElem hkL]; rfl))
      have herr : L[k].an.err = L[k].err := rfl
      rw [herr] at hstep h10k
      have hlk := hM.look (int_keyed Try.underlying3) (mt := 58) Try.underlying58 (key_int hfit)
      unfold mkI at hlk
      have hkey := hid (key_int hfit)
      have i0 : (0 : Int) ≤ (k : Int) := by omega
      have i1 : (k : Int) < (n : Int) := by omega
      have i2 : (k : Int) < (am : Int) := by omega
      clear hdo hd herr
      generalize l[k] = d at *
      generalize L[k].err = er at *
      by_cases hk1 : d.kind = 1
      · have t1 : (d.kind == 1) = true := by simp [hk1]
        rw [hk1] at c0
        by_cases he : er = 0
        · have t2 : (er == 0) = true := by simp [he]
          rw [he] at x0
          by_cases hc : d.b.c ∈ (T k).1
          · have t3 : decide (d.b.c ∈ (T k).1) = true := decide_eq_true hc
            rw [if_neg (fun q => q.2.2 hc)] at hstep
            rw [t3] at hlk
            replace hstep := hid hstep
            replace hc := hid hc
            have hM' := hid hM
            have hO' := hid hO
            clear hO hM
            go_wp2_with fail
            go_roundg (u - (k + 1))
            case measure => omega
            case rel => exact ⟨k + 1, DD, rfl, by omega, by go_num, by rw [hstep.out]; exact hO'.out, by rw [hstep.out]; exact ⟨hM'.out.own.mono (Nat.le_succ _), hM'.out.at_⟩, hsz⟩
          · have t3 : decide (d.b.c ∈ (T k).1) = false := decide_eq_false hc
            rw [if_pos ⟨hk1, he, hc⟩] at hstep
            rw [t3] at hlk
            have h10k := h10k.out hk1 he
            replace hstep := hid hstep
            replace hc := hid hc
            have hown := hid hM.own
            have hM' := hid hM
            have hO' := hid hO
            clear hO hM hE
            go_upto_region 8 with (fail)
            go_upto_region 9 with (refine wpList_mapUpdate_own _ rfl _ _ _ 58 rfl 3 4 (int_keyed Try.underlying3) Try.underlying58 (plainElem (H := Unit) Try.prog 4) w.heap.size k DD rfl hown.out (by unfold maxLen; omega) _ _ (.int .i64 d.b.c) rfl rfl hkey.out (.lit (.bool true)) [] (plainElem_bool Try.underlying4 true) ?_; intro w4 hown4 hg4)
            have b4 := hbo.grown hg4 (by omega) (by intro x hx; cases hx; exact Nat.le_refl _)
            have hO4 := hid (hO'.out.step hg4 (.inr (by intro x hx; cases hx; exact ⟨Nat.le_refl _, hg_row hO'.out.own hM'.out⟩)))
            have hM4 := hid (hM'.out.put (int_keyed Try.underlying3) mkI_inj hkey.out hown4)
            have hb4 := b4.size
            have hz4 := hg4.size
            clear c0 c5 c6 x0 hlk b4
            obtain ⟨ea, en, ec, c6, hE⟩ := (HDK.out w4 (hbo.grown hg4 (by omega) (by intro x hx; cases hx; exact Nat.le_refl _))).evs
            have hen := hid hE.n
            have hen2 : en ≤ 10 := by rw [← hen.out]; exact h10k
            have hsrc := hid (Sl.src (P := Try.prog) hE.sl Try.underlying25 (evCells_one d.b.evs))
            clear hE
            go_wp2_with (at_builtin; refine wpList_append_t rfl (.tmp 44) (.tmp 50) 25 25 rfl w.heap.size 32 3 32 (.agg #[.string ⟨#[]⟩, .int .i64 0, .int .i64 0]) Try.underlying25 info_ev rfl (by decide) _ (T k).2.length (evCells (T k).2) rfl hO4.out (.slice ea en ec) en (evCells d.b.evs) rfl hsrc.out (by unfold maxLen; omega) (by omega) (by omega) ?_; intro v5 w5 o5 g5)
            have M5 := hid (hM4.out.kept g5 (fun e => hg_row hO4.out.own hM4.out e.symm))
            have hz5 := g5.size
            go_roundg (u - (k + 1))
            case measure => omega
            case rel =>
              refine ⟨k + 1, DD.put (.int .i64 d.b.c) (.lit (.bool true)), rfl, by omega, by go_num, ?_, ?_, by omega⟩
              · rw [hstep.out, List.length_append, evCells_append, hen.out]; exact o5
              · rw [hstep.out]
                exact M5.out.congr (fun v => by by_cases e : v = d.b.c <;> simp [e])
        · have t2 : (er == 0) = false := beq_eq_false_iff_ne.2 he
          rw [if_neg (fun q => he q.2.1)] at hstep
          replace he := hid he
          replace hstep := hid hstep
          have hM' := hid hM
          have hO' := hid hO
          clear hO hM
          go_wp2_with fail
          go_roundg (u - (k + 1))
          case measure => omega
          case rel => exact ⟨k + 1, DD, rfl, by omega, by go_num, by rw [hstep.out]; exact hO'.out, by rw [hstep.out]; exact ⟨hM'.out.own.mono (Nat.le_succ _), hM'.out.at_⟩, hsz⟩
      · have t1 : (d.kind == 1) = false := beq_eq_false_iff_ne.2 hk1
        rw [if_neg (fun q => hk1 q.1)] at hstep
        replace hk1 := hid hk1
        replace hstep := hid hstep
        have hM' := hid hM
        have hO' := hid hO
        clear hO hM
        go_wp2_with fail
        go_roundg (u - (k + 1))
        case measure => omega
        case rel => exact ⟨k + 1, DD, rfl, by omega, by go_num, by rw [hstep.out]; exact hO'.out, by rw [hstep.out]; exact ⟨hM'.out.own.mono (Nat.le_succ _), hM'.out.at_⟩, hsz⟩
    · obtain rfl : k = u := by omega
      obtain ⟨a', c', rfl, -⟩ := own_sl hO.own
      have hOo := hid hO.own
      clear hO
      go_wp2_with fail
      go_ret
      exact ⟨a', c', rfl, ⟨hOo.out, HOK.out _⟩, hbo⟩
end Go.Proofs.Ythhcdfjijagalaa
namespace Go.Proofs.Ythhcdfjijagalaa
open Go.RowKit
set_option linter.unusedVariables false
theorem Es.drewN {w : World} {a : Option Addr} {n cap : Nat} {l : List Evt.Ev} (h : Es w a n cap l) (k : Nat) : Es (w.drewN k) a n cap l := ⟨h.sl.drewN k, h.ok⟩
theorem Bs.drewN {w : World} {a : Option Addr} {n cap : Nat} {l : List Rb} (h : Bs w a n cap l) (k : Nat) : Bs (w.drewN k) a n cap l := ⟨h.sl.drewN k, fun r hr => (h.ev r hr).drewN k⟩
set_option maxHeartbeats 1000000 in
theorem rSameEvents_same (a a' : Option Addr) (n cap n' cap' : Nat) (l : List Evt.Ev) (w : World) (h : Es w a n cap l) (h' : Es w a' n' cap' l) : Calls Try.prog 20 #[.slice a n cap, .slice a' n' cap'] w (Drew (.bool true) w) := by
  obtain rfl : n' = n := h'.n.symm.trans h.n
  have hmax := h.sl.max
  have hle := h.sl.le
  unfold maxLen at hmax
  have HN := hid h.n
  go_enter Try.func20, Try.ntmps20
  go_wp2
  go_loopg [5, 13, 16, 17, 18, 19, 20, 21, 22, 23, 24] n' (fun g s5 i s16 s17 s18 s19 s20 s21 s22 s23 s24 wr => ∃ k j : Nat, g = n' - k ∧ k ≤ n' ∧ i = .int .i64 k ∧ wr = w.drewN j)
  case atStart => exact ⟨0, 0, rfl, by omega, rfl, rfl⟩
  case round =>
    obtain ⟨k, j, rfl, hk, rfl, rfl⟩ := hrel
    by_cases hlt : k < n'
    · have hkl : k < l.length := by rw [HN.out]; exact hlt
      obtain ⟨b, off, rfl, _⟩ := h.sl.addr (by omega)
      obtain ⟨b', off', rfl, _⟩ := h'.sl.addr (by omega)
      obtain ⟨q0, q1, q2⟩ := h.at k hkl
      obtain ⟨p0, p1, p2⟩ := h'.at k hkl
      generalize l[k] = e at *
      go_wp2_with fail
      go_quiet (fail)
      go_wp2_with fail
      go_roundg (n' - (k + 1))
      case measure => omega
      case rel => exact ⟨k + 1, _, rfl, by omega, by go_num, rfl⟩
    · obtain rfl : k = n' := by omega
      go_wp2
      go_ret
      exact ⟨rfl, j, rfl⟩
set_option maxRecDepth 100000 in
set_option maxHeartbeats 1000000 in
theorem rSameBatches_same (a a' : Option Addr) (n cap n' cap' : Nat) (l l' : List Rb) (w : World) (h : Bs w a n cap l) (h' : Bs w a' n' cap' l') (hl : l.map Rb.ba = l'.map Rb.ba) : Calls Try.prog 35 #[.slice a n cap, .slice a' n' cap'] w (Drew (.bool true) w) := by
  have hll : l.length = l'.length := by have := congrArg List.length hl; simpa using this
  obtain rfl : n' = n := h'.n.symm.trans (hll.symm.trans h.n)
  have hmax := h.sl.max
  have hle := h.sl.le
  unfold maxLen at hmax
  have HN := hid h.n
  have HN' := hid h'.n
  have HL := hid hl
  clear hl hll
  go_enter Try.func35, Try.ntmps35
  go_wp2
  go_loopg [5, 13, 16, 17, 18, 19, 20, 21, 22, 23, 24, 25, 26, 27, 28, 29, 30, 31, 32, 33, 34, 35, 36, 37, 38, 39, 40] n' (fun g s5 i s16 s17 s18 s19 s20 s21 s22 s23 s24 s25 s26 s27 s28 s29 s30 s31 s32 s33 s34 s35 s36 s37 s38 s39 s40 wr => ∃ k j : Nat, g = n' - k ∧ k ≤ n' ∧ i = .int .i64 k ∧ wr = w.drewN j)
  case atStart => exact ⟨0, 0, rfl, by omega, rfl, rfl⟩
  case round =>
    obtain ⟨k, j, rfl, hk, rfl, hW⟩ := hrel
    have HW := hid hW
    have h := hW ▸ h.drewN j
    have h' := hW ▸ h'.drewN j
    clear hW
    by_cases hlt : k < n'
    · have hkl : k < l.length := by rw [HN.out]; exact hlt
      have hkl' : k < l'.length := by rw [HN'.out]; exact hlt
      obtain ⟨b, off, rfl, _⟩ := h.sl.addr (by omega)
      obtain ⟨b', off', rfl, _⟩ := h'.sl.addr (by omega)
      obtain ⟨q0, q1, q2⟩ := h.at k hkl
      obtain ⟨p0, p1, p2⟩ := h'.at k hkl'
      have he : (l[k]).ba = (l'[k]).ba := by
        have := congrArg (fun x => x[k]?) HL.out
        simpa [hkl, hkl'] using this
      generalize l[k] = r at *
      generalize l'[k] = r' at *
      obtain ⟨c, ea, en, ec, evs⟩ := r
      obtain ⟨c', ea', en', ec', evs'⟩ := r'
      have e1 : c = c' := congrArg Evt.Ba.c he
      have e2 : evs = evs' := congrArg Evt.Ba.evs he
      subst e1
      subst e2
      clear he
      simp only at q0 q1 q2 p0 p1 p2
      have hi0 : (0 : Int) ≤ (k : Int) := Int.natCast_nonneg _
      have hi1 : (k : Int) < (n' : Int) := by omega
      go_wp2_with fail
      go_quiet ((go_at_call 20; exact Calls.quiet_of (rSameEvents_same _ _ _ _ _ _ evs _ (q2.drewN _) (p2.drewN _))))
      go_wp2_with fail
      go_roundg (n' - (k + 1))
      case measure => omega
      case rel => exact ⟨k + 1, _, rfl, by omega, by go_num, by rw [HW.out, World.drewN_drewN]⟩
    · obtain rfl : k = n' := by omega
      go_wp2
      go_ret
      exact ⟨rfl, j, HW.out⟩
end Go.Proofs.Ythhcdfjijagalaa
namespace Go.Proofs.Ythhcdfjijagalaa
open Go.RowKit
set_option linter.unusedVariables false
theorem As.drewN {w : World} {a : Option Addr} {n cap : Nat} {l : List Vw.Acc} (h : As w a n cap l) (k : Nat) : As (w.drewN k) a n cap l := ⟨h.sl.drewN k, h.ok⟩
set_option maxHeartbeats 2000000 in
theorem rSameView_same (u : Int) (a a' : Option Addr) (n cap n' cap' : Nat) (l : List Vw.Acc) (w : World) (h : As w a n cap l) (h' : As w a' n' cap' l) : Calls Try.prog 28 #[viVal u a n cap, viVal u a' n' cap'] w (Grew (.bool true) w) := by
  obtain rfl : n' = n := h'.cnt.symm.trans h.cnt
  have hmax := h.sl.max
  have hle := h.sl.le
  unfold maxLen at hmax
  have HN := hid h.cnt
  unfold viVal
  go_enter Try.func28, Try.ntmps28
  go_wp2_with fail
  obtain ⟨V, hV⟩ : ∃ V, V = (w.alloc (.cells #[.int .i64 u, .slice a n' cap] 42)).alloc (.cells #[.int .i64 u, .slice a' n' cap'] 42) := ⟨_, rfl⟩
  rw [← hV]
  have v1 : V.heap[w.heap.size]? = some (.cells #[.int .i64 u, .slice a n' cap] 42 (0, 0)) := by rw [hV]; exact blk_old (blk_new _ _)
  have v2 : V.heap[w.heap.size + 1]? = some (.cells #[.int .i64 u, .slice a' n' cap'] 42 (0, 0)) := by rw [hV]; simpa using blk_new (w.alloc (.cells #[.int .i64 u, .slice a n' cap] 42)) _
  have hb : Below w.heap.size w V := by rw [hV]; exact ((Below.refl _ _).alloc (Nat.le_refl _) _).alloc (by simp) _
  replace h := h.below hb
  replace h' := h'.below hb
  clear hV
  have r0 : V.cell? ⟨w.heap.size, 0, none⟩ = some (.int .i64 u) := blk_cell v1
  have r1 : V.cell? ⟨w.heap.size, 1, none⟩ = some (.slice a n' cap) := blk_cell v1
  have r2 : V.cell? ⟨w.heap.size + 1, 0, none⟩ = some (.int .i64 u) := blk_cell v2
  have r3 : V.cell? ⟨w.heap.size + 1, 1, none⟩ = some (.slice a' n' cap') := blk_cell v2
  go_wp2_with fail
  go_loopg [5, 23, 26, 27, 28, 29, 30, 31, 32, 33, 34, 35, 36] n' (fun g s5 i s26 s27 s28 s29 s30 s31 s32 s33 s34 s35 s36 wr => ∃ k j : Nat, g = n' - k ∧ k ≤ n' ∧ i = .int .i64 (k : Int) ∧ wr = V.drewN j)
  case atStart => exact ⟨0, 0, rfl, by omega, rfl, rfl⟩
  case round =>
    obtain ⟨k, j, rfl, hk, rfl, hW⟩ := hrel
    have HW := hid hW
    have h := hW ▸ h.drewN j
    have h' := hW ▸ h'.drewN j
    have r0 : wr.cell? ⟨w.heap.size, 0, none⟩ = some (.int .i64 u) := by rw [hW]; exact r0
    have r1 : wr.cell? ⟨w.heap.size, 1, none⟩ = some (.slice a n' cap) := by rw [hW]; exact r1
    have r2 : wr.cell? ⟨w.heap.size + 1, 0, none⟩ = some (.int .i64 u) := by rw [hW]; exact r2
    have r3 : wr.cell? ⟨w.heap.size + 1, 1, none⟩ = some (.slice a' n' cap') := by rw [hW]; exact r3
    clear hW
    by_cases hlt : k < n'
    · have hkl : k < l.length := by rw [HN.out]; exact hlt
      obtain ⟨b, off, rfl, _⟩ := h.sl.addr (by omega)
      obtain ⟨b', off', rfl, _⟩ := h'.sl.addr (by omega)
      obtain ⟨q0, q1, q2, q3⟩ := h.at k hkl
      obtain ⟨p0, p1, p2, p3⟩ := h'.at k hkl
      generalize l[k] = e at *
      have hi0 : (0 : Int) ≤ (k : Int) := Int.natCast_nonneg _
      have hi1 : (k : Int) < (n' : Int) := by omega
      go_wp2_with fail
      go_quiet (fail)
      go_wp2_with fail
      go_roundg (n' - (k + 1))
      case measure => omega
      case rel => exact ⟨k + 1, _, rfl, by omega, by go_num, by rw [HW.out, World.drewN_drewN]⟩
    · obtain rfl : k = n' := by omega
      go_wp2_with fail
      go_ret
      exact ⟨rfl, by rw [HW.out]; exact below_drewN hb _⟩
end Go.Proofs.Ythhcdfjijagalaa
namespace Go.Proofs.Ythhcdfjijagalaa
open Go.RowKit Go.Maps
set_option linter.unusedVariables false
set_option linter.unusedSimpArgs false
set_option maxRecDepth 100000
def doVal (d : Sto.Do) (ea : Option Addr) (en ec : Nat) : Value := .agg #[.int .i64 d.kind, .int .i64 d.n, .int .i64 d.seg, .int .i64 d.t, .int .u8 (d.y.toNat : Int), .int .i64 d.b.c, .slice ea en ec, .string d.stream, .int .i64 d.ver]
end Go.Proofs.Ythhcdfjijagalaa
