/- Joined, and what is not used struck: OpD, SpF, SpG, SoE. -/
import Derived.Test.YthhcdfjijagalaaM10
import Derived.Test.YthhcdfjijagalaaM35
import Derived.Test.YthhcdfjijagalaaM37
import Derived.Test.YthhcdfjijagalaaM24
import Derived.Test.YthhcdfjijagalaaM03
import Derived.Test.YthhcdfjijagalaaM26
import Derived.Test.YthhcdfjijagalaaM11
import Derived.Test.YthhcdfjijagalaaM36
import Derived.DeepKeys4
namespace Go.Proofs.Ythhcdfjijagalaa
open Go.ChangeShapes Go.WideShapes Go.ChangeAt Go.RowKit Go.Joins Go.Deep
set_option linter.unusedVariables false
/-- numbers that fit -/
structure Fits (d : Sto.Do) : Prop where
  c : -9223372036854775808 ≤ d.b.c ∧ d.b.c ≤ 9223372036854775807
  n : -9223372036854775808 ≤ d.n ∧ d.n ≤ 9223372036854775807
  seg : -9223372036854775808 ≤ d.seg ∧ d.seg ≤ 9223372036854775807
section
variable {H : Type} {enc : TypeId × Value → H} {w : World} {base : Nat} {spare : Nat → Bool} {held : Bool}
set_option maxRecDepth 100000 in
theorem open_setup {b0 : Nat} {v : Value} {d : DataW H} {p : List MemPlace} (hv : Value.okWide Try.prog w .any b0 37 v)
    (h : DataW.Trod enc Try.prog w base spare held 37 v d p) : ∃ x y z : Int, v = .agg #[.int .i64 x, .int .i64 y, .int .i64 z] := by
  obtain ⟨v0, v1, v2, y0, y1, y2, n, rfl, rfl, rfl, h0, h1, h2⟩ := open_agg3 Try.underlying37 (by kernel_rfl) (by kernel_rfl) hv h
  obtain ⟨s, e0, _, _⟩ := DataW.trod_int Try.underlying3 h0
  obtain ⟨k, e1, _, _⟩ := DataW.trod_int Try.underlying3 h1
  obtain ⟨m, e2, _, _⟩ := DataW.trod_int Try.underlying3 h2
  simp at e0 e1 e2
  subst e0 e1 e2
  exact ⟨s, k, m, rfl⟩
theorem nine {α : Type} {l : List α} (h : l.length = 9) : ∃ a b c d e f g i j, l = [a, b, c, d, e, f, g, i, j] := by
  rcases l with _ | ⟨a, _ | ⟨b, _ | ⟨c, _ | ⟨d, _ | ⟨e, _ | ⟨f, _ | ⟨g, _ | ⟨i, _ | ⟨j, _ | ⟨k, l⟩⟩⟩⟩⟩⟩⟩⟩⟩⟩ <;> simp at h
  exact ⟨a, b, c, d, e, f, g, i, j, rfl⟩
theorem u8_of {a : Int} (h : (Lit.int .u8 a).wf = true) : ∃ y : UInt8, a = (y.toNat : Int) := by
  obtain ⟨h0, h1⟩ := u8_bounds h
  refine ⟨UInt8.ofNat a.toNat, ?_⟩
  rw [UInt8.toNat_ofNat']
  omega
set_option maxRecDepth 100000 in
theorem open_do {k : Nat} {cs : List Value} {x : DataW H × List MemPlace} (hlen : cs.length = 9) (h : DataW.trod enc Try.prog w base spare held k 29 cs = some x) :
    ∃ (d : Sto.Do) (a : Option Addr) (n cap : Nat), cs = [.int .i64 d.kind, .int .i64 d.n, .int .i64 d.seg, .int .i64 d.t, .int .u8 (d.y.toNat : Int), .int .i64 d.b.c, .slice a n cap, .string d.stream, .int .i64 d.ver] ∧ Es w a n cap d.b.evs ∧ d.stream.size ≤ maxLen ∧ Fits d := by
  obtain ⟨c0, c1, c2, c3, c4, c5, c6, c7, c8, rfl⟩ := nine hlen
  obtain ⟨ys, k', _, _, _, hyl, hfs⟩ := DataW.trod_struct Try.underlying29 h
  have hyl : ys.length = 8 := hyl
  have hI : Try.prog.cellsOf 3 = 1 := by kernel_rfl
  have hU : Try.prog.cellsOf 5 = 1 := by kernel_rfl
  have hS : Try.prog.cellsOf 9 = 1 := by kernel_rfl
  have hB : Try.prog.cellsOf 27 = 2 := by kernel_rfl
  have hE : Try.prog.cellsOf 25 = 1 := by kernel_rfl
  have hy : ∀ j (hj : j < 8), ys[j]? = some (ys[j]'(by omega)) := fun j hj => List.getElem?_eq_getElem (by omega)
  have t0 := (hfs 0 _ rfl).trans (hy 0 (by omega))
  have t1 := (hfs 1 _ rfl).trans (hy 1 (by omega))
  have t2 := (hfs 2 _ rfl).trans (hy 2 (by omega))
  have t3 := (hfs 3 _ rfl).trans (hy 3 (by omega))
  have t4 := (hfs 4 _ rfl).trans (hy 4 (by omega))
  have t5 := (hfs 5 _ rfl).trans (hy 5 (by omega))
  have t6 := (hfs 6 _ rfl).trans (hy 6 (by omega))
  have t7 := (hfs 7 _ rfl).trans (hy 7 (by omega))
  change DataW.trod enc Try.prog w base spare held k' 3 (List.take (Try.prog.cellsOf 3) _) = _ at t0 t1 t2 t3 t7
  change DataW.trod enc Try.prog w base spare held k' 5 (List.take (Try.prog.cellsOf 5) _) = _ at t4
  change DataW.trod enc Try.prog w base spare held k' 27 (List.take (Try.prog.cellsOf 27) _) = _ at t5
  change DataW.trod enc Try.prog w base spare held k' 9 (List.take (Try.prog.cellsOf 9) _) = _ at t6
  rw [hI] at t0 t1 t2 t3 t7
  rw [hU] at t4
  rw [hB] at t5
  rw [hS] at t6
  change DataW.trod enc Try.prog w base spare held k' 3 [c0] = _ at t0
  change DataW.trod enc Try.prog w base spare held k' 3 [c1] = _ at t1
  change DataW.trod enc Try.prog w base spare held k' 3 [c2] = _ at t2
  change DataW.trod enc Try.prog w base spare held k' 3 [c3] = _ at t3
  change DataW.trod enc Try.prog w base spare held k' 5 [c4] = _ at t4
  change DataW.trod enc Try.prog w base spare held k' 27 [c5, c6] = _ at t5
  change DataW.trod enc Try.prog w base spare held k' 9 [c7] = _ at t6
  change DataW.trod enc Try.prog w base spare held k' 3 [c8] = _ at t7
  obtain ⟨zs, k2, _, _, _, hzl, hgs⟩ := DataW.trod_struct Try.underlying27 t5
  have hzl : zs.length = 2 := hzl
  have hz : ∀ j (hj : j < 2), zs[j]? = some (zs[j]'(by omega)) := fun j hj => List.getElem?_eq_getElem (by omega)
  have s0 := (hgs 0 _ rfl).trans (hz 0 (by omega))
  have s1 := (hgs 1 _ rfl).trans (hz 1 (by omega))
  change DataW.trod enc Try.prog w base spare held k2 3 (List.take (Try.prog.cellsOf 3) _) = _ at s0
  change DataW.trod enc Try.prog w base spare held k2 25 (List.take (Try.prog.cellsOf 25) _) = _ at s1
  rw [hI] at s0
  rw [hE] at s1
  change DataW.trod enc Try.prog w base spare held k2 3 [c5] = _ at s0
  change DataW.trod enc Try.prog w base spare held k2 25 [c6] = _ at s1
  obtain ⟨g0, e0, _, _⟩ := DataW.trod_int Try.underlying3 t0
  obtain ⟨g1, e1, _, w1⟩ := DataW.trod_int Try.underlying3 t1
  obtain ⟨g2, e2, _, w2⟩ := DataW.trod_int Try.underlying3 t2
  obtain ⟨g3, e3, _, _⟩ := DataW.trod_int Try.underlying3 t3
  obtain ⟨g4, e4, _, w4⟩ := DataW.trod_int Try.underlying5 t4
  obtain ⟨g5, e5, _, w5⟩ := DataW.trod_int Try.underlying3 s0
  obtain ⟨a, n, cap, l, e6, hEs⟩ := open_events s1
  obtain ⟨g7, e7, _, hs⟩ := DataW.trod_string Try.underlying9 t6
  obtain ⟨g8, e8, _, _⟩ := DataW.trod_int Try.underlying3 t7
  obtain ⟨y, rfl⟩ := u8_of w4
  simp at e0 e1 e2 e3 e4 e5 e7 e8
  subst e0 e1 e2 e3 e4 e5 e6 e7 e8
  exact ⟨⟨g0, g1, g2, g3, y, ⟨g5, l⟩, g7, g8⟩, a, n, cap, rfl, hEs, hs, ⟨i64_bounds' w5, i64_bounds' w1, i64_bounds' w2⟩⟩
set_option maxRecDepth 100000 in
theorem open_dos {fuel : Nat} {v : Value} {x : DataW H × List MemPlace} (h : DataW.trod enc Try.prog w base spare held fuel 34 [v] = some x) : ∃ a n cap l, v = .slice a n cap ∧ Dos w a n cap l ∧ ∀ d ∈ l, Fits d := by
  rcases open_slice Try.underlying34 h with ⟨h0, _⟩ | ⟨a, n, cap, m, k, D, Pl, hcs, _, hl, hm, hmm, _, hi⟩
  · obtain rfl : v = .slice none 0 0 := by simpa using h0
    exact ⟨none, 0, 0, [], rfl, ⟨Nat.le_refl _, Nat.zero_le _, rfl, fun h => absurd h (by omega)⟩, fun d hd => by cases hd⟩
  · obtain rfl : v = .slice (some a) n cap := by simpa using hcs
    have hC : Try.prog.cellsOf 29 = 9 := by kernel_rfl
    rcases Nat.eq_zero_or_pos n with h0 | h0
    · subst h0
      exact ⟨some a, 0, cap, [], rfl, ⟨hl, hm, rfl, fun h => absurd h (by omega)⟩, fun d hd => by cases hd⟩
    · have hsp : ∃ b off, a = ⟨b, off, none⟩ := by
        obtain ⟨cs', h1, h2⟩ := hi 0 (by rw [hmm]; split <;> omega)
        rw [hC] at h1
        obtain ⟨_, hlen, hat⟩ := World.cells?_some h1
        obtain ⟨d, ea, en, ec, rfl, hE, hs, hfit⟩ := open_do hlen h2
        have c0 := hat 0 (by omega)
        rw [Nat.zero_mul] at c0
        obtain ⟨b, off, spot⟩ := a
        have hspot : spot = none := by
          have := World.cell?_spot c0
          unfold Addr.add at this
          simpa using this
        exact ⟨b, off, by rw [hspot]⟩
      obtain ⟨b, off, rfl⟩ := hsp
      have hp : ∀ i, i < n → ∃ d : Sto.Do, DoR w b (off + i * 9) d ∧ Fits d := by
        intro i hin
        have him : i < m := by rw [hmm]; split <;> omega
        obtain ⟨cs', h1, h2⟩ := hi i him
        rw [hC] at h1
        obtain ⟨_, hlen, hat⟩ := World.cells?_some h1
        obtain ⟨d, ea, en, ec, rfl, hE, hs, hfit⟩ := open_do hlen h2
        have hat : ∀ j, j < 9 → w.cell? ⟨b, off + i * 9 + j, none⟩ = [Value.int .i64 d.kind, .int .i64 d.n, .int .i64 d.seg, .int .i64 d.t, .int .u8 (d.y.toNat : Int), .int .i64 d.b.c, .slice ea en ec, .string d.stream, .int .i64 d.ver][j]? := fun j hj => by
          have := hat j hj
          rwa [add_off, add_off] at this
        exact ⟨d, ⟨hat 0 (by omega), hat 1 (by omega), hat 2 (by omega), hat 3 (by omega), hat 4 (by omega), hat 5 (by omega), ⟨ea, en, ec, hat 6 (by omega), hE⟩, hat 7 (by omega), hat 8 (by omega), hs⟩, hfit⟩
      have : Inhabited Sto.Do := ⟨⟨0, 0, 0, 0, 0, ⟨0, []⟩, ⟨#[]⟩, 0⟩⟩
      obtain ⟨V, hV⟩ := choose_lt (α := Sto.Do) hp
      refine ⟨_, n, cap, (List.range n).map V, rfl, ⟨hl, hm, by simp, fun _ => ⟨b, off, rfl, fun i hil => ?_⟩⟩, fun d hd => ?_⟩
      · have hin : i < n := by simpa using hil
        simpa using (hV i hin).1
      · obtain ⟨i, hi, rfl⟩ := List.mem_map.1 hd
        exact (hV i (List.mem_range.1 hi)).2
end
end Go.Proofs.Ythhcdfjijagalaa
namespace Go.Proofs.Ythhcdfjijagalaa
open Go.RowKit Go.Maps
set_option linter.unusedVariables false
set_option linter.unusedSimpArgs false
set_option linter.unusedSectionVars false
set_option maxRecDepth 100000
section
variable {α : Type} [DecidableEq α]
structure Hg (kt : TypeId) (mk : α → Value) (w : World) (b n : Nat) (f : α → Bool) (D : DataW Unit) : Prop where
  own : w.ownsMap Try.prog kt (plainElem (H := Unit) Try.prog 4) b n D
  at_ : ∀ u l, keyOf Try.prog kt (mk u) = some l → D.atKey l (.lit (.bool false)) = .lit (.bool (f u))
variable {kt : TypeId} {mk : α → Value} {w w' : World} {b n n' : Nat} {f : α → Bool} {D : DataW Unit}
theorem Hg.start (w : World) : Hg kt mk (w.alloc (.map #[] 0)) w.heap.size 0 (fun _ => false) (.map []) := ⟨World.ownsMap_made _ _ _ _, fun u l _ => rfl⟩
theorem Hg.look (h : Hg kt mk w b n f D) (K : Keyed Try.prog kt) {mt : TypeId} (ht : Try.prog.underlying mt = some (.map kt 4)) {u : α} {l : Lit} (hk : keyOf Try.prog kt (mk u) = some l) : (Instr.lookup mt (.map (some b)) (mk u) false).run Try.prog w = .ok (.bool (f u)) w := by
  obtain ⟨v, ps, hrun, hv⟩ := h.own.lookup K ht (z := .bool false) (by kernel_rfl) (plainElem_bool Try.underlying4 false) hk
  rw [h.at_ u l hk] at hv
  obtain ⟨x, rfl, e⟩ := plainElem_bool_inv hv
  simp at e
  rw [hrun, e.1]
theorem Hg.put (h : Hg kt mk w b n f D) (K : Keyed Try.prog kt) (inj : ∀ u v : α, mk u = mk v → u = v) {u : α} {l : Lit} {x : Bool} (hk : keyOf Try.prog kt (mk u) = some l) (ho : w'.ownsMap Try.prog kt (plainElem (H := Unit) Try.prog 4) b n' (D.put l (.lit (.bool x)))) :
    Hg kt mk w' b n' (fun v => if v = u then x else f v) (D.put l (.lit (.bool x))) := by
  refine ⟨ho, fun v l' hl' => ?_⟩
  by_cases e : v = u
  · subst e
    rw [hk] at hl'
    injection hl' with hl'
    subst hl'
    rw [atKey_put_same h.own.isMap (K.key hk)]
    simp
  · have hne : l' ≠ l := fun e2 => by
      subst e2
      exact e (inj _ _ (K.inj hl' hk))
    rw [atKey_put_other hne, h.at_ v l' hl']
    simp [e]
theorem Hg.kept {q : Option Nat} (h : Hg kt mk w b n f D) (hg : w.grownBy w' q) (hq : some b ≠ q) : Hg kt mk w' b n f D := ⟨h.own.kept hg hq, h.at_⟩
theorem Hg.alloc (h : Hg kt mk w b n f D) (o : Obj) : Hg kt mk (w.alloc o) b n f D := h.kept (World.grownBy_alloc w o none) (by simp)
theorem Hg.congr {g : α → Bool} (h : Hg kt mk w b n f D) (e : ∀ u, f u = g u) : Hg kt mk w b n g D := by
  have : f = g := funext e
  subst this; exact h
end
/-! ### answers that are read -/
structure Amv (w : World) (a : Option Addr) (n cap : Nat) (L : List Am) : Prop where
  sl : Sl w 5 a n cap (rows am5 L)
  cnt : L.length = n
  evs : ∀ x ∈ L, Es w x.ea x.evs.length x.ec x.evs
  accs : ∀ x ∈ L, As w x.aa x.accs.length x.ac x.accs
theorem Ams.amv {w : World} {base : Nat} {a : Option Addr} {n cap : Nat} {L : List Am} (h : Ams w base (.slice a n cap) L) : n = L.length ∧ Amv w a n cap L := by
  obtain ⟨a', c', e, hs⟩ := own_sl h.own
  cases e
  exact ⟨rfl, hs, rfl, fun x hx => (h.evs x hx).es, fun x hx => (h.accs x hx).as⟩
theorem Amv.at {w : World} {b off n cap : Nat} {L : List Am} (h : Amv w (some ⟨b, off, none⟩) n cap L) (i : Nat) (hi : i < L.length) :
    w.cell? ⟨b, off + i * 5, none⟩ = some (.int .i64 L[i].err) ∧ w.cell? ⟨b, off + i * 5 + 1, none⟩ = some (.int .i64 L[i].n) ∧ w.cell? ⟨b, off + i * 5 + 2, none⟩ = some (.slice L[i].ea L[i].evs.length L[i].ec) ∧ w.cell? ⟨b, off + i * 5 + 3, none⟩ = some (.int .i64 L[i].u) ∧ w.cell? ⟨b, off + i * 5 + 4, none⟩ = some (.slice L[i].aa L[i].accs.length L[i].ac) := by
  have hn := h.cnt
  have g : ∀ j, j < 5 → w.cell? ⟨b, off + (i * 5 + j), none⟩ = (am5 L[i])[j]? := fun j hj => by
    have h1 := rows_get am5_len L i j hi hj
    obtain ⟨b', off', e, hc⟩ := h.sl.addr (by omega)
    cases e
    have hlt : j < (am5 L[i]).length := hj
    rw [List.getElem?_eq_getElem hlt] at h1 ⊢
    exact hc _ _ h1
  exact ⟨g 0 (by omega), g 1 (by omega), g 2 (by omega), g 3 (by omega), g 4 (by omega)⟩
theorem Amv.free {w : World} {a : Option Addr} {n cap : Nat} {L : List Am} (h : Amv w a n cap L) (hn : 0 < n) : ∃ b off, a = some ⟨b, off, none⟩ := by
  obtain ⟨b, off, e, _⟩ := h.sl.addr hn
  exact ⟨b, off, e⟩
def mk2 (p : Int × Int) : Value := .agg #[.int .i64 p.1, .int .i64 p.2]
theorem mk2_inj : ∀ u v : Int × Int, mk2 u = mk2 v → u = v := fun u v e => by
  unfold mk2 at e
  simp only [Value.agg.injEq, Array.mk.injEq, List.cons.injEq, Value.int.injEq, true_and, and_true] at e
  exact Prod.ext e.1 e.2
theorem lits_int {d : Nat} {a : Int} (h : (Lit.int .i64 a).wf = true) : Try.prog.keyLits (d + 1) 3 [.int .i64 a] = some [.int .i64 a] := by
  unfold Program.keyLits; rw [Try.underlying3]; simp [h]
theorem two_wide : (match Try.prog.underlying 85 with | some (.array _ _) | some (.struct _) => true | _ => false) = true := by rw [Try.underlying85]
theorem two_keyed : Keyed Try.prog 85 := Keyed.of_law (deep_law_laid laidOut (m := 2) (by omega) (of_decide_eq_true (by kernel_rfl)) (by kernel_rfl) two_wide)
theorem key_two {p : Int × Int} (h1 : -9223372036854775808 ≤ p.1 ∧ p.1 ≤ 9223372036854775807) (h2 : -9223372036854775808 ≤ p.2 ∧ p.2 ≤ 9223372036854775807) : ∃ l, keyOf Try.prog 85 (mk2 p) = some l := by
  have w1 := WalkArith.wf_i64 h1
  have w2 := WalkArith.wf_i64 h2
  have hC : Try.prog.cellsOf 85 = 2 := by kernel_rfl
  have hI : Try.prog.cellsOf 3 = 1 := by kernel_rfl
  have hK : Try.prog.keyType 85 = true := by kernel_rfl
  have hF : (mk2 p).formed Try.prog 85 = true := by simp [mk2, Value.formed, Try.underlying85, hC]
  have hS : ∃ m, Try.prog.types.size = m + 1 := ⟨Try.prog.types.size - 1, by kernel_rfl⟩
  obtain ⟨m, hm⟩ := hS
  have hL : ∃ ls, Try.prog.keyLits (Try.prog.types.size + 1) 85 (mk2 p).cells.toList = some ls := by
    rw [hm]
    unfold Program.keyLits
    rw [Try.underlying85]
    have e : (mk2 p).cells.toList = [.int .i64 p.1, .int .i64 p.2] := rfl
    simp only [e, hC, hI, List.length_cons, List.length_nil]
    simp [List.range_succ, lits_int w1, lits_int w2]
  obtain ⟨ls, hL⟩ := hL
  unfold keyOf
  rw [Try.underlying85]
  simp only [hK, hF, Bool.and_self, if_true, hL]
  exact ⟨_, rfl⟩
def OnceRes (l : List Sto.Do) (w : World) (e : Ending) (w' : World) : Prop := ∃ r : Bool, e = .returned (.bool r) ∧ (r = true ↔ Sto.Once l) ∧ Below w.heap.size w w'
set_option maxHeartbeats 4000000 in
theorem once8_call (a : Option Addr) (n cap : Nat) (l : List Sto.Do) (w : World) (hD : Dos w a n cap l) (hn : n ≤ 100) (hF : ∀ d ∈ l, Fits d) :
    Calls Try.prog 22 #[.slice a n cap] w (OnceRes l w) := by
  have HN := hid hD.cnt
  have HF := hid hF
  have HD := hid hD
  have HS := hid (fun (k : Nat) (hk : k < l.length) => Sto.hadTo_succ hk)
  have H0 := hid (show Sto.hadTo l 0 = [] from rfl)
  have HO := hid (show Sto.Once l ↔ ∀ k (h : k < l.length), l[k].kind = 7 → l[k].y ≠ 0 → (l[k].n, l[k].seg) ∉ Sto.hadTo l k from Iff.rfl)
  clear hD hF
  generalize Sto.hadTo l = T at *
  have hmm := @run_makeMap Try.prog
  have M0 := Hg.start (kt := 85) (mk := mk2) w
  go_enter Try.func22, Try.ntmps22
  go_wp2_with fail
  go_loopg [10] n (fun g s10 wr => ∃ (k : Nat) (DD : DataW Unit), g = n - k ∧ k ≤ n ∧ s10 = .int .i64 (k : Int) ∧ Hg 85 mk2 wr w.heap.size k (fun c => decide (c ∈ T k)) DD ∧ Below w.heap.size w wr ∧ w.heap.size < wr.heap.size ∧ Hid (∀ j (h : j < l.length), j < k → l[j].kind = 7 → l[j].y ≠ 0 → (l[j].n, l[j].seg) ∉ T j))
  case atStart => exact ⟨0, .map [], rfl, by omega, rfl, by rw [H0.out]; exact M0.congr (fun u => by simp), (Below.refl _ _).alloc (Nat.le_refl _) _, by simp, hid (fun j h hj => absurd hj (Nat.not_lt_zero _))⟩
  case round =>
    clear M0 hmm
    obtain ⟨k, DD, rfl, hk, rfl, hM, hB, hsz, HJ⟩ := hrel
    obtain ⟨wo, rfl⟩ : ∃ wo : World, wo = wr := ⟨_, rfl⟩
    by_cases hlt : k < n
    · have hkl : k < l.length := by rw [HN.out]; omega
      obtain ⟨db, off, rfl, hdo⟩ := HD.out.addr (by omega)
      have hd := (hdo k hkl).below hB
      have c0 := hd.kind
      have c1 := hd.n
      have c2 := hd.seg
      have c3 := hd.t
      have c4 := hd.y
      have c5 := hd.c
      obtain ⟨ea, en, ec, c6, -⟩ := hd.evs
      have c7 := hd.stream
      have c8 := hd.ver
      have hfit := HF.out l[k] (List.getElem_mem _)
      have hstep := hid (HS.out k hkl)
      have HJk := hid (fun (hh : l[k].kind = 7 → l[k].y ≠ 0 → (l[k].n, l[k].seg) ∉ T k) => (show ∀ j (h : j < l.length), j < k + 1 → l[j].kind = 7 → l[j].y ≠ 0 → (l[j].n, l[j].seg) ∉ T j from fun j h hj => by
        by_cases e : j = k
        · subst e; exact hh
        · exact HJ.out j h (by omega)))
      have HNO := hid (fun (q1 : l[k].kind = 7) (q2 : l[k].y ≠ 0) (q3 : (l[k].n, l[k].seg) ∈ T k) (ho : Sto.Once l) => HO.out.1 ho k hkl q1 q2 q3)
      obtain ⟨kl, hkl2⟩ := key_two (p := (l[k].n, l[k].seg)) hfit.n hfit.seg
      have i0 : (0 : Int) ≤ (k : Int) := by omega
      have i1 : (k : Int) < (n : Int) := by omega
      have W1 := (hM.alloc (.cells #[.int .i64 l[k].kind, .int .i64 l[k].n, .int .i64 l[k].seg, .int .i64 l[k].t, .int .u8 (l[k].y.toNat : Int), .int .i64 l[k].b.c, .slice ea en ec, .string l[k].stream, .int .i64 l[k].ver] 29)).alloc (.cells #[.int .i64 l[k].n, .int .i64 l[k].seg] 85)
      have hlk := W1.look two_keyed (mt := 84) Try.underlying84 hkl2
      unfold mk2 at hlk
      have hM' := hid hM
      clear hdo hd hfit W1 hM
      generalize l[k] = d at *
      have hB' := hid hB
      have hszw := hB.size
      clear hB
      by_cases hk7 : d.kind = 7
      · have t1 : (d.kind == 7) = true := by simp [hk7]
        by_cases hy : d.y = 0
        · have t2 : ((d.y.toNat : Int) != 0) = false := by rw [hy]; rfl
          have HNN := hid (show ¬ (d.kind = 7 ∧ d.y ≠ 0) from fun q => q.2 hy)
          replace hk7 := hid hk7
          replace hy := hid hy
          go_wp2_with fail
          have BX := (hB'.out.alloc (by omega) (.cells #[.int .i64 d.kind, .int .i64 d.n, .int .i64 d.seg, .int .i64 d.t, .int .u8 (d.y.toNat : Int), .int .i64 d.b.c, .slice ea en ec, .string d.stream, .int .i64 d.ver] 29)).alloc (by simp; omega) (.cells #[.int .i64 d.n, .int .i64 d.seg] 85)
          have MX := (hM'.out.alloc (.cells #[.int .i64 d.kind, .int .i64 d.n, .int .i64 d.seg, .int .i64 d.t, .int .u8 (d.y.toNat : Int), .int .i64 d.b.c, .slice ea en ec, .string d.stream, .int .i64 d.ver] 29)).alloc (.cells #[.int .i64 d.n, .int .i64 d.seg] 85)
          go_roundg (n - (k + 1))
          case measure => omega
          case rel =>
            refine ⟨k + 1, DD, rfl, by omega, by go_num, ?_, BX, by simp; omega, hid (HJk.out (fun _ q => absurd hy.out q))⟩
            rw [hstep.out]
            unfold Sto.hadN
            rw [if_neg HNN.out]
            exact ⟨MX.own.mono (Nat.le_succ _), MX.at_⟩
        · have t2 : ((d.y.toNat : Int) != 0) = true := bne_iff_ne.2 (fun e => hy (UInt8.toNat_inj.1 (by simpa using e)))
          by_cases hin : (d.n, d.seg) ∈ T k
          · have t3 : decide ((d.n, d.seg) ∈ T k) = true := decide_eq_true hin
            rw [t3] at hlk
            replace hin := hid hin
            replace hy := hid hy
            replace hk7 := hid hk7
            go_wp2_with fail
            have BX := (hB'.out.alloc (by omega) (.cells #[.int .i64 d.kind, .int .i64 d.n, .int .i64 d.seg, .int .i64 d.t, .int .u8 (d.y.toNat : Int), .int .i64 d.b.c, .slice ea en ec, .string d.stream, .int .i64 d.ver] 29)).alloc (by simp; omega) (.cells #[.int .i64 d.n, .int .i64 d.seg] 85)
            go_ret
            exact ⟨false, rfl, ⟨fun e => (by cases e), fun ho => absurd ho (HNO.out hk7.out hy.out hin.out)⟩, BX⟩
          · have t3 : decide ((d.n, d.seg) ∈ T k) = false := decide_eq_false hin
            rw [t3] at hlk
            have HYY := hid (show d.kind = 7 ∧ d.y ≠ 0 from ⟨hk7, hy⟩)
            replace hin := hid hin
            replace hy := hid hy
            replace hk7 := hid hk7
            have MX := hid ((hM'.out.alloc (.cells #[.int .i64 d.kind, .int .i64 d.n, .int .i64 d.seg, .int .i64 d.t, .int .u8 (d.y.toNat : Int), .int .i64 d.b.c, .slice ea en ec, .string d.stream, .int .i64 d.ver] 29)).alloc (.cells #[.int .i64 d.n, .int .i64 d.seg] 85))
            have hkey := hid hkl2
            unfold mk2 at hkey
            go_wp2_with (refine wpList_mapUpdate_own _ rfl _ _ _ 84 rfl 85 4 two_keyed Try.underlying84 (plainElem (H := Unit) Try.prog 4) w.heap.size k DD rfl MX.out.own (by unfold maxLen; omega) _ _ _ rfl rfl hkey.out (.lit (.bool true)) [] (plainElem_bool Try.underlying4 true) ?_; intro w4 hown4 hg4)
            have BX := (hB'.out.alloc (by omega) (.cells #[.int .i64 d.kind, .int .i64 d.n, .int .i64 d.seg, .int .i64 d.t, .int .u8 (d.y.toNat : Int), .int .i64 d.b.c, .slice ea en ec, .string d.stream, .int .i64 d.ver] 29)).alloc (by simp; omega) (.cells #[.int .i64 d.n, .int .i64 d.seg] 85)
            have BY := BX.grown hg4 (by simp; omega) (by intro x hx; cases hx; exact Nat.le_refl _)
            have hz4 := hg4.size
            simp at hz4
            go_roundg (n - (k + 1))
            case measure => omega
            case rel =>
              refine ⟨k + 1, DD.put kl (.lit (.bool true)), rfl, by omega, by go_num, ?_, BY, by omega, hid (HJk.out (fun _ _ => hin.out))⟩
              rw [hstep.out]
              unfold Sto.hadN
              rw [if_pos HYY.out]
              exact (MX.out.put two_keyed mk2_inj hkl2 hown4).congr (fun v => by by_cases e : v = (d.n, d.seg) <;> simp [e])
      · have t1 : (d.kind == 7) = false := beq_eq_false_iff_ne.2 hk7
        have HNN := hid (show ¬ (d.kind = 7 ∧ d.y ≠ 0) from fun q => hk7 q.1)
        replace hk7 := hid hk7
        go_wp2_with fail
        have BX := (hB'.out.alloc (by omega) (.cells #[.int .i64 d.kind, .int .i64 d.n, .int .i64 d.seg, .int .i64 d.t, .int .u8 (d.y.toNat : Int), .int .i64 d.b.c, .slice ea en ec, .string d.stream, .int .i64 d.ver] 29)).alloc (by simp; omega) (.cells #[.int .i64 d.n, .int .i64 d.seg] 85)
        have MX := (hM'.out.alloc (.cells #[.int .i64 d.kind, .int .i64 d.n, .int .i64 d.seg, .int .i64 d.t, .int .u8 (d.y.toNat : Int), .int .i64 d.b.c, .slice ea en ec, .string d.stream, .int .i64 d.ver] 29)).alloc (.cells #[.int .i64 d.n, .int .i64 d.seg] 85)
        go_roundg (n - (k + 1))
        case measure => omega
        case rel =>
          refine ⟨k + 1, DD, rfl, by omega, by go_num, ?_, BX, by simp; omega, hid (HJk.out (fun q => absurd q hk7.out))⟩
          rw [hstep.out]
          unfold Sto.hadN
          rw [if_neg HNN.out]
          exact ⟨MX.own.mono (Nat.le_succ _), MX.at_⟩
    · obtain rfl : k = n := by omega
      go_wp2_with fail
      go_ret
      exact ⟨true, rfl, ⟨fun _ => HO.out.2 (fun j h => HJ.out j h (by have := HN.out; omega)), fun _ => rfl⟩, hB⟩
end Go.Proofs.Ythhcdfjijagalaa
namespace Go.Proofs.Ythhcdfjijagalaa
open Go.RowKit Go.Maps
set_option linter.unusedVariables false
set_option linter.unusedSimpArgs false
set_option maxRecDepth 100000
def doVal (d : Sto.Do) (ea : Option Addr) (en ec : Nat) : Value := .agg #[.int .i64 d.kind, .int .i64 d.n, .int .i64 d.seg, .int .i64 d.t, .int .u8 (d.y.toNat : Int), .int .i64 d.b.c, .slice ea en ec, .string d.stream, .int .i64 d.ver]
end Go.Proofs.Ythhcdfjijagalaa
namespace Go.Proofs.Ythhcdfjijagalaa.Evt
set_option linter.unusedVariables false
theorem fb_all (l : List Ba) (h : ∀ b ∈ l, (wrongBa b).1 = 0) : ∀ i, (fb l i).1 = 0 := by
  induction l with
  | nil => intro i; rfl
  | cons b r ih =>
    intro i
    unfold fb
    rw [if_neg (by rw [h b (by simp)]; exact fun e => e rfl)]
    exact ih (fun x hx => h x (by simp [hx])) _
theorem evBytes_le {e : Ev} (h : wrongEv e = 0) : (evBytes e).length ≤ 15 := by
  have := (named_len (wrongEv_zero h).1).2
  unfold evBytes
  simp only [List.length_cons, List.length_append, three_length]
  omega
theorem baBytes_le {b : Ba} (h : (wrongBa b).1 = 0) (h2 : b.evs.length ≤ 2) : (baBytes b).length ≤ 34 := by
  have hw := (wrongBa_zero h).2.2.2.2
  have : ∀ l : List Ev, (∀ e ∈ l, wrongEv e = 0) → (l.flatMap evBytes).length ≤ 15 * l.length := by
    intro l hl
    induction l with
    | nil => simp
    | cons e r ih =>
      have h1 := evBytes_le (hl e (by simp))
      have h2 := ih (fun x hx => hl x (by simp [hx]))
      rw [List.flatMap_cons, List.length_append, List.length_cons]; omega
  have := this b.evs hw
  unfold baBytes
  rw [List.length_append, List.length_cons, three_length]
  omega
theorem bytes_le {l : List Ba} (h : ∀ b ∈ l, (wrongBa b).1 = 0 ∧ b.evs.length ≤ 2) : (bytes l).length ≤ 1 + 34 * l.length := by
  have : (l.flatMap baBytes).length ≤ 34 * l.length := by
    induction l with
    | nil => simp
    | cons e r ih =>
      have h1 := baBytes_le (h e (by simp)).1 (h e (by simp)).2
      have h2 := ih (fun x hx => h x (by simp [hx]))
      rw [List.flatMap_cons, List.length_append, List.length_cons]; omega
  unfold bytes
  rw [List.length_cons]; omega
end Go.Proofs.Ythhcdfjijagalaa.Evt
namespace Go.Proofs.Ythhcdfjijagalaa.Sto
set_option linter.unusedVariables false
theorem layF_ok {b : List UInt8} {g d s : Int} (h1 : Mat.wrongC d s = 0) (h2 : 0 ≤ g ∧ g ≤ 39) (h3 : (b.length : Int) ≤ 400 * d) : (Stp.layF b g d s).2 = 0 := by
  have h := Stp.layF_spec b g d s
  unfold Stp.LayR at h
  rw [if_neg (fun e => e h1), if_neg (by omega), if_neg (by omega)] at h
  obtain ⟨S, _, _, h⟩ := h
  exact h
theorem Ok.code {s : St} {K : Nat} (h : Ok s K) : Mat.wrongC s.data s.spare = 0 := by
  have := h.d; have := h.sp
  unfold Mat.wrongC
  rw [if_neg (by omega)]
theorem J.tail {s : St} {X : List Evt.Ba} {had : List (Int × Int)} {H : Nat → Prop} {K : Nat} (h : J s X had H K) : ∀ b ∈ s.tail, b ∈ X := fun b hb => by
  obtain ⟨G, L, _, ht⟩ := h.core
  rw [← ht]
  exact List.mem_append_right _ hb
theorem put_good {s : St} {X : List Evt.Ba} {had : List (Int × Int)} {H : Nat → Prop} {K : Nat} (h : J s X had H K) {d : Do} (hk : d.kind = 1) (hw : (Evt.wrongBa d.b).1 = 0) (hc : ∀ b ∈ X, b.c ≠ d.b.c) (hv : d.ver < 0) (hf : (Vw.fold s.snap d.b.evs).err = 0)
    (h2 : d.b.evs.length ≤ 2) (ht : ∀ b ∈ X, b.evs.length ≤ 2) (hs : s.segs ≤ 39) : (step s d).2.err = 0 ∧ newB s d = [d.b] := by
  have hns : ¬ d.b.c ∈ s.seen := fun hm => by
    obtain ⟨b, hb, e⟩ := (h.inv.seen _).1 hm
    exact hc b hb e
  have hall : ∀ b ∈ s.tail ++ [d.b], (Evt.wrongBa b).1 = 0 ∧ b.evs.length ≤ 2 := fun b hb => by
    rcases List.mem_append.1 hb with hb | hb
    · exact ⟨h.ok.te b hb, ht b (h.tail b hb)⟩
    · obtain rfl := List.mem_singleton.1 hb
      exact ⟨hw, h2⟩
  have htl := h.ok.t
  have hb10 := h.ok.b
  have hlen : (s.tail ++ [d.b]).length ≤ 10 := by rw [List.length_append]; simp only [List.length_cons, List.length_nil]; omega
  have hby : Evt.bytesR (s.tail ++ [d.b]) = ⟨Evt.bytes (s.tail ++ [d.b]), 0, 0⟩ := by
    unfold Evt.bytesR
    rw [if_neg (by omega), if_neg (by rw [Evt.fb_all _ (fun b hb => (hall b hb).1)]; exact fun e => e rfl)]
  have hbl := Evt.bytes_le hall
  have hd := h.ok.d
  have hlay : (Stp.layF (Evt.bytes (s.tail ++ [d.b])) (s.segs : Int) s.data s.spare).2 = 0 := layF_ok h.ok.code (by omega) (by omega)
  have hseal : (sealS { s with tail := s.tail ++ [d.b] }).2 = 0 := by
    unfold sealS
    rw [if_neg (show ¬ (Evt.bytesR (s.tail ++ [d.b])).err ≠ 0 by rw [hby]; exact fun e => e rfl), if_neg (show ¬ (Stp.layF (Evt.bytesR (s.tail ++ [d.b])).l (s.segs : Int) s.data s.spare).2 ≠ 0 by rw [hby]; exact fun e => e hlay)]
  have he : (put s d).2.err = 0 := by
    unfold put
    rw [if_neg (by rw [hw]; exact fun e => e rfl), if_neg hns, if_neg (by omega), if_neg (by rw [hf]; exact fun e => e rfl)]
    split
    · rw [if_neg (by rw [hseal]; exact fun e => e rfl)]; rfl
    · rfl
  refine ⟨by rw [step_put hk]; exact he, ?_⟩
  unfold newB
  rw [step_put hk, if_pos ⟨hk, he, hns⟩]
/-- how many batches there are -/
def Cnt (s : St) (X : List Evt.Ba) : Prop := (s.segs : Int) * s.batches + (s.tail.length : Int) = (X.length : Int)
theorem Cnt.start (d p b : Int) : Cnt (start d p b) [] := by
  show ((0 : Nat) : Int) * b + ((0 : Nat) : Int) = ((0 : Nat) : Int)
  simp
theorem step_batches (s : St) (d : Do) : (step s d).1.batches = s.batches ∧ (step s d).1.data = s.data := by
  by_cases h1 : d.kind = 1
  · rw [step_put h1]
    rcases put_cases s d with ⟨e1, _⟩ | ⟨_, _, e, _, e', _⟩
    · rw [e1]; exact ⟨rfl, rfl⟩
    · exact ⟨e', e⟩
  · by_cases h5 : d.kind = 5 ∨ d.kind = 6 ∨ d.kind = 7
    · rw [step_harm h5]
      rcases harm_cases s d with ⟨e1, _⟩ | ⟨_, _, _, ⟨_, e1⟩ | ⟨_, _, e1⟩ | ⟨_, _, _, _, _, _, e1⟩⟩ <;> rw [e1] <;> exact ⟨rfl, rfl⟩
    · by_cases h8 : d.kind = 8
      · rw [step_scrub h8]; exact ⟨rfl, rfl⟩
      · rw [step_other h1 h5 h8]; exact ⟨rfl, rfl⟩
theorem Cnt.step {s : St} {X : List Evt.Ba} (h : Cnt s X) (d : Do) : Cnt (step s d).1 (X ++ newB s d) := by
  unfold Cnt at *
  by_cases h1 : d.kind = 1
  · unfold newB
    rw [step_put h1]
    rcases put_cases s d with ⟨e1, e2⟩ | ⟨e1, e2, _, _, e5, e6⟩
    · rw [if_neg (by rintro ⟨_, h3, h4⟩; rcases e2 with h2 | h2; exact h2 h3; exact h4 h2), List.append_nil, e1]; exact h
    · rw [if_pos ⟨h1, e1, e2⟩, e5, List.length_append]
      rcases e6 with ⟨_, f2, f3, _⟩ | ⟨L', _, _, _, f2, f3, f4⟩
      · rw [f2, f3, List.length_append]
        simp only [List.length_cons, List.length_nil]
        omega
      · rw [f2, f3]
        simp only [List.length_cons, List.length_nil]
        have : ((s.segs + 1 : Nat) : Int) * s.batches = (s.segs : Int) * s.batches + s.batches := by
          rw [Int.natCast_add, Int.add_mul]; simp
        rw [this]
        omega
  · rw [newB_no h1, List.append_nil]
    by_cases h5 : d.kind = 5 ∨ d.kind = 6 ∨ d.kind = 7
    · rw [step_harm h5, (harm_rest s d).1, (harm_rest s d).2, ← step_harm h5, (step_batches s d).1]; exact h
    · by_cases h8 : d.kind = 8
      · rw [step_scrub h8]; exact h
      · rw [step_other h1 h5 h8]; exact h
theorem read_all {s : St} {X : List Evt.Ba} (ha : all s = (X, 0)) {d : Do} (h3 : d.kind = 3) (hn : d.n = 0) : (step s d).2 = ⟨0, (events X).length, events X, Vw.none'⟩ := by
  have : (step s d).2 = read s d := by unfold step; rw [if_neg (by omega), if_pos (.inr h3)]
  rw [this, read_of ha, if_pos h3, hn, if_neg (by omega)]
  rfl
/-- one event comes -/
theorem fold_one {v : Vw.Vi} {e : Evt.Ev} (hg : Vw.Good v) (h1 : Evt.wrongEv e = 0) (h2 : v.upto ≠ 150) (h3 : Vw.may (Vw.get v.accs e.s) e = true) :
    (Vw.fold v [e]).err = 0 ∧ (Vw.fold v [e]).v = ⟨v.upto + 1, Vw.ins (Vw.plus (Vw.get v.accs e.s) e) v.accs⟩ ∧ Vw.Good (Vw.fold v [e]).v := by
  have ha := Vw.apply_of hg h1 h2 h3
  have he : (Vw.fold v [e]).err = 0 := by
    rw [Vw.fold_of hg, Vw.fo_cons, ha]
    rfl
  have hv : (Vw.fold v [e]).v = ⟨v.upto + 1, Vw.ins (Vw.plus (Vw.get v.accs e.s) e) v.accs⟩ := by
    rw [Vw.fold_of hg, Vw.fo_cons, ha]
    rfl
  refine ⟨he, hv, ?_⟩
  rw [Vw.fold_of hg] at he ⊢
  exact (Vw.fo_good _ _ 0 hg he).1
def doPut (c : Int) (l : List Evt.Ev) : Do := ⟨1, 0, 0, 0, 0, ⟨c, l⟩, ⟨#[]⟩, -1⟩
def doOf (k n : Int) : Do := ⟨k, n, 0, 0, 0, ⟨0, []⟩, ⟨#[]⟩, 0⟩
def sa : ByteArray := ⟨#[97]⟩
def sb : ByteArray := ⟨#[98]⟩
theorem open_right (s : ByteArray) (h : s = sa ∨ s = sb) : Evt.wrongEv ⟨s, 1, 0⟩ = 0 := by
  rcases h with rfl | rfl <;> decide
theorem ba_right {c : Int} {l : List Evt.Ev} (h1 : 1 ≤ c) (h2 : c ≤ 1000000) (h3 : 1 ≤ l.length) (h4 : l.length ≤ 10) (h : ∀ e ∈ l, Evt.wrongEv e = 0) : (Evt.wrongBa ⟨c, l⟩).1 = 0 := by
  unfold Evt.wrongBa
  rw [if_neg (by show ¬ (c < 1 ∨ 1000000 < c); omega), if_neg (by show ¬ (l.length < 1 ∨ 10 < l.length); omega)]
  have : ∀ (l : List Evt.Ev), (∀ e ∈ l, Evt.wrongEv e = 0) → ∀ i, (Evt.fw l i).1 = 0 := by
    intro l hl
    induction l with
    | nil => intro i; rfl
    | cons e r ih =>
      intro i
      unfold Evt.fw
      rw [if_neg (by rw [hl e (by simp)]; exact fun e => e rfl)]
      exact ih (fun x hx => hl x (by simp [hx])) _
  exact this l h 0
theorem few_one : Few (fun i => (i : Int) = 0) 1 := fun U hn hs => by
  have := few_list (U := [0]) (n := 1) (by decide) U hn (fun u hu => by simp [hs u hu])
  exact this
section
variable {s : St} {X : List Evt.Ba} {had : List (Int × Int)} {H : Nat → Prop} {K : Nat}
theorem J.put (h : J s X had H K) {d : Do} (hd : d.kind = 1) : J (Sto.step s d).1 (X ++ newB s d) had H (K + 1) := by
  have := h.step d (fun e => absurd (hd.symm.trans e) (by decide))
  unfold hurtN hadN at this
  rwa [if_neg (show ¬ (d.kind = 5 ∨ d.kind = 6 ∨ d.kind = 7) by omega), if_neg (show ¬ d.kind = 8 by omega), if_neg (show ¬ (d.kind = 7 ∧ d.y ≠ 0) by omega)] at this
/-- a disk is harmed, or not -/
theorem J.harm (h : J s X had H K) {d : Do} (hd : d.kind = 5 ∨ d.kind = 6 ∨ (d.kind = 7 ∧ (d.n, d.seg) ∉ had)) : J (Sto.step s d).1 X (hadN had d) (fun i => H i ∨ (i : Int) = d.n) (K + 1) := by
  have h1 := h.step d (fun e _ => by rcases hd with hd | hd | hd; omega; omega; exact hd.2)
  rw [newB_no (by omega), List.append_nil] at h1
  refine h1.mono (fun i hi => ?_)
  unfold hurtN at hi
  rw [if_pos (by omega)] at hi
  split at hi
  · exact hi
  · exact .inl hi
end
theorem Few.mono {H H' : Nat → Prop} {n m : Int} (h : Few H n) (hh : ∀ i, H' i → H i) (hn : n ≤ m) : Few H' m := fun U hU hs => by
  have := h U hU (fun u hu => hh u (hs u hu))
  omega
/-- the closed fact of chapter 8's laws -/
theorem alive8_plain : ∃ s a1 a2 a3, play 2 1 1 [doPut 1 [⟨sa, 1, 0⟩], doOf 5 0, doOf 3 0] = (s, [a1, a2, a3], 0) ∧ s.segs = 1 ∧ a3.err = 0 ∧ a3.evs.length = 1 := by
  have hw : wrongS 2 1 1 = 0 := by decide
  have hj0 := J.start hw (fun _ => False)
  have hf : (Vw.fold (start 2 1 1).snap (doPut 1 [⟨sa, 1, 0⟩]).b.evs).err = 0 := (fold_one Vw.good_none (open_right sa (.inl rfl)) (by decide) (by decide)).1
  obtain ⟨e1, n1⟩ := put_good hj0 (d := doPut 1 [⟨sa, 1, 0⟩]) rfl (ba_right (by decide) (by decide) (by decide) (by decide) (fun e he => by obtain rfl := List.mem_singleton.1 he; exact open_right sa (.inl rfl))) (fun b hb => by cases hb) (by decide) hf (by decide) (fun b hb => by cases hb) (by decide)
  have hj1 := hj0.put (d := doPut 1 [⟨sa, 1, 0⟩]) rfl
  have hc1 := (Cnt.start 2 1 1).step (doPut 1 [⟨sa, 1, 0⟩])
  rw [n1] at hj1 hc1
  have hb1 := (step_batches (start 2 1 1) (doPut 1 [⟨sa, 1, 0⟩])).1
  have hs1 : (step (start 2 1 1) (doPut 1 [⟨sa, 1, 0⟩])).1.segs = 1 := by
    have ht := hj1.ok.t
    unfold Cnt at hc1
    rw [hb1] at hc1 ht
    have hb : (start 2 1 1).batches = 1 := rfl
    rw [hb] at hc1 ht
    have : (([] ++ [(doPut 1 [⟨sa, 1, 0⟩]).b] : List Evt.Ba).length : Int) = 1 := rfl
    rw [this] at hc1
    omega
  have hsp1 := step_spare (start 2 1 1) (doPut 1 [⟨sa, 1, 0⟩])
  have hsp0 : (start 2 1 1).spare = 1 := rfl
  have hu : play 2 1 1 [doPut 1 [⟨sa, 1, 0⟩], doOf 5 0, doOf 3 0] = _ := play_of hw (by decide)
  rw [run_cons, run_cons, run_cons] at hu
  generalize step (start 2 1 1) (doPut 1 [⟨sa, 1, 0⟩]) = r1 at *
  have hj2 := hj1.harm (d := doOf 5 0) (.inl rfl)
  have hsp2 := step_spare r1.1 (doOf 5 0)
  have hs2 : (step r1.1 (doOf 5 0)).1.segs = 1 := by rw [step_harm (.inl rfl), (harm_rest _ _).1, hs1]
  generalize step r1.1 (doOf 5 0) = r2 at *
  have ha := hj2.all_ok (few_one.mono (fun i hi => by rcases hi with h | h; exact absurd h (fun q => q); exact h) (by omega))
  have hr := read_all ha (d := doOf 3 0) rfl rfl
  have hst : (step r2.1 (doOf 3 0)).1 = r2.1 := step_other (by decide) (by decide) (by decide)
  rw [hst, hr] at hu
  exact ⟨_, _, _, _, hu, hs2, rfl, rfl⟩
end Go.Proofs.Ythhcdfjijagalaa.Sto
