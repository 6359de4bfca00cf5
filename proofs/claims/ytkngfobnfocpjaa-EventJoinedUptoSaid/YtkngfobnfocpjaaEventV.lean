/- The closed fact that is asked first of the laws of events. -/
import Derived.Test.YtkngfobnfocpjaaEventD
import Derived.Test.YtkngfobnfocpjaaEventF
import Derived.Test.YtkngfobnfocpjaaEventG
namespace Go.Proofs.Ytkngfobnfocpjaa
open Go.RowKit
set_option linter.unusedVariables false
theorem lit_sl (W : World) (cs : Array Value) (t : TypeId) (n sz : Nat) (hs : cs.size = n * sz) (hn : n ≤ maxLen) : Sl (W.alloc (.cells cs t)) sz (some ⟨W.heap.size, 0, none⟩) n n cs.toList :=
  ⟨Nat.le_refl _, hn, by simpa using hs, (fun e => by cases e), fun _ => ⟨W.heap.size, 0, rfl, fun j u hj => by rw [Nat.zero_add, cell_new]; simpa using hj⟩⟩

def Evt.aliveB : List Evt.Ba := [⟨5, [⟨⟨#[97]⟩, 2, 7⟩]⟩]
theorem Evt.alive_err : (Evt.bytesR Evt.aliveB).err = 0 ∧ (Evt.bytesR Evt.aliveB).at_ = 0 ∧ (Evt.bytesR Evt.aliveB).l.length = 11 := by decide +kernel
theorem Evt.alive_named : Evt.named (Evt.lst ⟨#[97, 49]⟩) = true ∧ Evt.named (Evt.lst ⟨#[65]⟩) = false := by decide +kernel
set_option maxRecDepth 100000 in
set_option maxHeartbeats 1000000 in
theorem alive5_call (w : World) : Calls Try.prog 43 #[] w (Grew (.bool true) w) := by
  obtain ⟨he0, he1, he2⟩ := Evt.alive_err
  have hpar := Evt.parse_bytes _ he0
  have hB : Bs ((w.alloc (.cells #[.string ⟨#[97]⟩, .int .i64 2, .int .i64 7] 47)).alloc (.cells #[.int .i64 5, .slice (some ⟨w.heap.size, 0, none⟩) 1 1] 52)) (some ⟨w.heap.size + 1, 0, none⟩) 1 1 [⟨5, some ⟨w.heap.size, 0, none⟩, 1, 1, [⟨⟨#[97]⟩, 2, 7⟩]⟩] := by
    have h1 := lit_sl w #[.string ⟨#[97]⟩, .int .i64 2, .int .i64 7] 47 1 3 rfl (by decide)
    have h2 := lit_sl (w.alloc (.cells #[.string ⟨#[97]⟩, .int .i64 2, .int .i64 7] 47)) #[.int .i64 5, .slice (some ⟨w.heap.size, 0, none⟩) 1 1] 52 1 2 rfl (by decide)
    rw [World.size_alloc] at h2
    refine ⟨h2, fun r hr => ?_⟩
    obtain rfl := List.mem_singleton.1 hr
    exact ⟨h1.alloc _, fun e he => by obtain rfl := List.mem_singleton.1 he; exact (by decide : (⟨#[97]⟩ : ByteArray).size ≤ maxLen)⟩
  have D1 := eBytes_call _ _ _ _ _ hB
  rw [show [(⟨5, some ⟨w.heap.size, 0, none⟩, 1, 1, [⟨⟨#[97]⟩, 2, 7⟩]⟩ : Rb)].map Rb.ba = Evt.aliveB from rfl] at D1
  obtain ⟨R, hR⟩ : ∃ R, Evt.bytesR Evt.aliveB = R := ⟨_, rfl⟩
  obtain ⟨P, e, a⟩ := R
  rw [hR] at he0 he1 he2 hpar D1
  simp only at he0 he1 he2 hpar
  subst he0 he1
  have D2 := fun W a c (h : Bt W a P.length c P) => eParse_call a P.length c P W h
  rw [hpar] at D2
  rw [he2] at D2
  have D1' := hid (D1.mono (R' := fun e w' => ∃ a c, e = .returned (.tuple #[.slice a 11 c, .agg #[.int .i64 0, .int .i64 0]]) ∧ Below ((w.alloc (.cells #[.string ⟨#[97]⟩, .int .i64 2, .int .i64 7] 47)).alloc (.cells #[.int .i64 5, .slice (some ⟨w.heap.size, 0, none⟩) 1 1] 52)).heap.size ((w.alloc (.cells #[.string ⟨#[97]⟩, .int .i64 2, .int .i64 7] 47)).alloc (.cells #[.int .i64 5, .slice (some ⟨w.heap.size, 0, none⟩) 1 1] 52)) w' ∧ Bt w' a 11 c P) (fun e w' ⟨v, h1, h2, h3⟩ => by
    obtain ⟨a, c, rfl, hs⟩ := own_sl h3
    simp only [he2] at h1 hs
    exact ⟨a, c, h1, h2, hs⟩))
  replace D2 := hid D2
  have N1 := hid (fun W => eNamed_call ⟨#[97, 49]⟩ (by decide) W)
  have N2 := hid (fun W => eNamed_call ⟨#[65]⟩ (by decide) W)
  rw [Evt.alive_named.1] at N1
  rw [Evt.alive_named.2] at N2
  clear D1 hB hpar he2 hR
  go_enter Try.func43, Try.ntmps43
  go_wp2_with fail
  go_at_call 38; refine (D1'.out).mono ?_; rintro e w1 ⟨a1, c1, rfl, b1, s1⟩
  have bb1 : Below w.heap.size w w1 := (((Below.refl _ _).alloc (Nat.le_refl _) _).alloc (by simp) _).trans (b1.mono (by simp; omega))
  go_wp2_with fail
  go_at_call 40; refine (D2.out _ _ _ (Sl.alloc s1 _)).mono ?_; rintro e w2 ⟨a2, n2, c2, Rs, rfl, hBs, hRs, b2⟩
  have hl1 : Rs.length = 1 := by have := congrArg List.length hRs; simpa [Evt.aliveB] using this
  obtain ⟨r, rfl⟩ := List.length_eq_one_iff.1 hl1
  have hc5 : r.c = 5 := by have := congrArg (fun x : List Evt.Ba => x.map Evt.Ba.c) hRs; simpa [Evt.aliveB, Rb.ba] using this
  have hn2 := hBs.n
  simp only [List.length_cons, List.length_nil] at hn2
  subst hn2
  obtain ⟨bq, off, rfl, _⟩ := hBs.sl.addr (by omega)
  have q0 := (hBs.at 0 (by simp)).1
  simp only [List.getElem_cons_zero, hc5, Nat.zero_mul, Nat.add_zero] at q0
  have k0 : w2.cell? ⟨w1.heap.size, 0, none⟩ = some (.int .i64 0) := box_cell b2 0
  have bb2 := bnext bb1 (box_below b2)
  clear hRs hc5
  go_wp2_with fail
  go_at_call 32; refine (N1.out _).mono ?_; rintro e w3 ⟨rfl, rfl⟩
  go_wp2_with fail
  go_at_call 32; refine (N2.out _).mono ?_; rintro e w3 ⟨rfl, rfl⟩
  go_wp2_with fail
  go_ret
  exact ⟨ret_bool (by simp), bb2⟩

end Go.Proofs.Ytkngfobnfocpjaa
