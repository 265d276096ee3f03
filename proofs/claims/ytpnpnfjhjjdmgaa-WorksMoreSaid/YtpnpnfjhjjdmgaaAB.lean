/- The project of the document's examples. -/
import Derived.Test.YtpnpnfjhjjdmgaaAA
import Derived.Great.BuildSlice
namespace Go.Proofs.Ytpnpnfjhjjdmgaa
open Go.RowKit Go.Deep

def ridgeP : Pj := ⟨3, 2, [⟨40, 0, 1, 100, -1, [⟨50, 60⟩, ⟨0, 0⟩]⟩, ⟨30, 0, 2, 0, 0, [⟨20, 30⟩, ⟨40, 50⟩]⟩, ⟨20, 0, 2, 500, -1, [⟨30, 40⟩, ⟨10, 10⟩]⟩, ⟨10, 0, 2, 0, 1, [⟨60, 60⟩, ⟨60, 60⟩]⟩], [⟨0, 1, 45⟩, ⟨1, 2, 40⟩], [true, false], [50, 30, 30]⟩
theorem fill24 (z : Array Value) (hz : z.size = 24) (a0 a1 a2 a3 a4 a5 b0 b1 b2 b3 b4 b5 c0 c1 c2 c3 c4 c5 d0 d1 d2 d3 d4 d5 : Value) : Instr.fill (fun i => some (i * 6, 6)) z [(0, .agg #[a0, a1, a2, a3, a4, a5]), (1, .agg #[b0, b1, b2, b3, b4, b5]), (2, .agg #[c0, c1, c2, c3, c4, c5]), (3, .agg #[d0, d1, d2, d3, d4, d5])] = some #[a0, a1, a2, a3, a4, a5, b0, b1, b2, b3, b4, b5, c0, c1, c2, c3, c4, c5, d0, d1, d2, d3, d4, d5] := by
  have h := Great.fill_whole (s := 6) (by omega) [.agg #[a0, a1, a2, a3, a4, a5], .agg #[b0, b1, b2, b3, b4, b5], .agg #[c0, c1, c2, c3, c4, c5], .agg #[d0, d1, d2, d3, d4, d5]] z (by intro v hv; simp at hv; rcases hv with rfl | rfl | rfl | rfl <;> rfl) (by rw [hz]; rfl)
  exact h
set_option maxRecDepth 100000 in
set_option maxHeartbeats 4000000 in
theorem ridge_any (w : World) :
    Calls Try.prog 45 #[] w fun e w' => (∃ p : Pm, e = .returned (pmV p) ∧ p.pj = ridgeP ∧ PmOk p w' ∧ p.ps.length ≤ p.pc) ∧ newer w w' := by
  obtain ⟨s, hs⟩ : ∃ s, s = w.heap.size := ⟨_, rfl⟩
  have H0 : Hid (newer w ((((w.alloc (.cells #[vi 0, vi 0, .slice none 0 0, .slice none 0 0, .slice none 0 0, .slice none 0 0] 35)).alloc (.cells #[.bool true, .bool false] 4)).alloc (.cells #[vi 50, vi 30, vi 30] 3)).alloc (.cells #[vi 0, vi 1, vi 45, vi 1, vi 2, vi 40] 89)) ∧ Whole ((((w.alloc (.cells #[vi 0, vi 0, .slice none 0 0, .slice none 0 0, .slice none 0 0, .slice none 0 0] 35)).alloc (.cells #[.bool true, .bool false] 4)).alloc (.cells #[vi 50, vi 30, vi 30] 3)).alloc (.cells #[vi 0, vi 1, vi 45, vi 1, vi 2, vi 40] 89)) s 35 #[vi 0, vi 0, .slice none 0 0, .slice none 0 0, .slice none 0 0, .slice none 0 0] ∧ Whole ((((w.alloc (.cells #[vi 0, vi 0, .slice none 0 0, .slice none 0 0, .slice none 0 0, .slice none 0 0] 35)).alloc (.cells #[.bool true, .bool false] 4)).alloc (.cells #[vi 50, vi 30, vi 30] 3)).alloc (.cells #[vi 0, vi 1, vi 45, vi 1, vi 2, vi 40] 89)) (s + 1) 4 #[.bool true, .bool false] ∧ Whole ((((w.alloc (.cells #[vi 0, vi 0, .slice none 0 0, .slice none 0 0, .slice none 0 0, .slice none 0 0] 35)).alloc (.cells #[.bool true, .bool false] 4)).alloc (.cells #[vi 50, vi 30, vi 30] 3)).alloc (.cells #[vi 0, vi 1, vi 45, vi 1, vi 2, vi 40] 89)) (s + 1 + 1) 3 #[vi 50, vi 30, vi 30] ∧ Whole ((((w.alloc (.cells #[vi 0, vi 0, .slice none 0 0, .slice none 0 0, .slice none 0 0, .slice none 0 0] 35)).alloc (.cells #[.bool true, .bool false] 4)).alloc (.cells #[vi 50, vi 30, vi 30] 3)).alloc (.cells #[vi 0, vi 1, vi 45, vi 1, vi 2, vi 40] 89)) (s + 1 + 1 + 1) 89 #[vi 0, vi 1, vi 45, vi 1, vi 2, vi 40]) := Lib.hid (by
    have m0 := (((Whole.made w 35 #[vi 0, vi 0, .slice none 0 0, .slice none 0 0, .slice none 0 0, .slice none 0 0]).alloc (.cells #[.bool true, .bool false] 4)).alloc (.cells #[vi 50, vi 30, vi 30] 3)).alloc (.cells #[vi 0, vi 1, vi 45, vi 1, vi 2, vi 40] 89)
    have m1 := ((Whole.made (w.alloc (.cells #[vi 0, vi 0, .slice none 0 0, .slice none 0 0, .slice none 0 0, .slice none 0 0] 35)) 4 #[.bool true, .bool false]).alloc (.cells #[vi 50, vi 30, vi 30] 3)).alloc (.cells #[vi 0, vi 1, vi 45, vi 1, vi 2, vi 40] 89)
    have m2 := (Whole.made ((w.alloc (.cells #[vi 0, vi 0, .slice none 0 0, .slice none 0 0, .slice none 0 0, .slice none 0 0] 35)).alloc (.cells #[.bool true, .bool false] 4)) 3 #[vi 50, vi 30, vi 30]).alloc (.cells #[vi 0, vi 1, vi 45, vi 1, vi 2, vi 40] 89)
    have m3 := Whole.made (((w.alloc (.cells #[vi 0, vi 0, .slice none 0 0, .slice none 0 0, .slice none 0 0, .slice none 0 0] 35)).alloc (.cells #[.bool true, .bool false] 4)).alloc (.cells #[vi 50, vi 30, vi 30] 3)) 89 #[vi 0, vi 1, vi 45, vi 1, vi 2, vi 40]
    simp only [World.size_alloc, ← hs] at m0 m1 m2 m3
    exact ⟨newer_trans (newer_trans (newer_trans (newer_allocH w _) (newer_allocH _ _)) (newer_allocH _ _)) (newer_allocH _ _), m0, m1, m2, m3⟩)
  have HSE := Lib.hid hs
  go_enter Try.func45, Try.ntmps45
  go_wp2_with fail
  rw [← hs]
  clear hs
  refine (span_any 50 60 _).mono ?_
  rintro e w1 ⟨rfl, hb⟩
  have G1 : Hid (newer w (w1) ∧ Whole (w1) s 35 #[vi 0, vi 0, .slice none 0 0, .slice none 0 0, .slice none 0 0, .slice none 0 0] ∧ Whole (w1) (s + 1) 4 #[.bool true, .bool false] ∧ Whole (w1) (s + 1 + 1) 3 #[vi 50, vi 30, vi 30] ∧ Whole (w1) (s + 1 + 1 + 1) 89 #[vi 0, vi 1, vi 45, vi 1, vi 2, vi 40]) := Lib.hid ⟨newer_trans H0.out.1 hb, H0.out.2.1.below hb H0.out.2.1.lt, H0.out.2.2.1.below hb H0.out.2.2.1.lt, H0.out.2.2.2.1.below hb H0.out.2.2.2.1.lt, H0.out.2.2.2.2.below hb H0.out.2.2.2.2.lt⟩
  clear hb H0
  obtain ⟨b0, hb0⟩ : ∃ b, b = w1.heap.size := ⟨_, rfl⟩
  have K1 : Hid (newer w (w1.alloc (.cells #[vi 50, vi 60, vi 0, vi 0] 38)) ∧ Whole (w1.alloc (.cells #[vi 50, vi 60, vi 0, vi 0] 38)) s 35 #[vi 0, vi 0, .slice none 0 0, .slice none 0 0, .slice none 0 0, .slice none 0 0] ∧ Whole (w1.alloc (.cells #[vi 50, vi 60, vi 0, vi 0] 38)) (s + 1) 4 #[.bool true, .bool false] ∧ Whole (w1.alloc (.cells #[vi 50, vi 60, vi 0, vi 0] 38)) (s + 1 + 1) 3 #[vi 50, vi 30, vi 30] ∧ Whole (w1.alloc (.cells #[vi 50, vi 60, vi 0, vi 0] 38)) (s + 1 + 1 + 1) 89 #[vi 0, vi 1, vi 45, vi 1, vi 2, vi 40] ∧ Whole (w1.alloc (.cells #[vi 50, vi 60, vi 0, vi 0] 38)) b0 38 #[vi 50, vi 60, vi 0, vi 0]) := Lib.hid ⟨newer_trans G1.out.1 (newer_allocH _ _), G1.out.2.1.alloc _, G1.out.2.2.1.alloc _, G1.out.2.2.2.1.alloc _, G1.out.2.2.2.2.alloc _, by rw [hb0]; exact Whole.made _ _ _⟩
  clear G1
  go_wp2_with fail
  rw [← hb0]
  clear hb0
  refine (span_any 20 30 _).mono ?_
  rintro e w2 ⟨rfl, hb⟩
  have G2 : Hid (newer w (w2) ∧ Whole (w2) s 35 #[vi 0, vi 0, .slice none 0 0, .slice none 0 0, .slice none 0 0, .slice none 0 0] ∧ Whole (w2) (s + 1) 4 #[.bool true, .bool false] ∧ Whole (w2) (s + 1 + 1) 3 #[vi 50, vi 30, vi 30] ∧ Whole (w2) (s + 1 + 1 + 1) 89 #[vi 0, vi 1, vi 45, vi 1, vi 2, vi 40] ∧ Whole (w2) b0 38 #[vi 50, vi 60, vi 0, vi 0]) := Lib.hid ⟨newer_trans K1.out.1 hb, K1.out.2.1.below hb K1.out.2.1.lt, K1.out.2.2.1.below hb K1.out.2.2.1.lt, K1.out.2.2.2.1.below hb K1.out.2.2.2.1.lt, K1.out.2.2.2.2.1.below hb K1.out.2.2.2.2.1.lt, K1.out.2.2.2.2.2.below hb K1.out.2.2.2.2.2.lt⟩
  clear hb K1
  go_wp2_with fail
  refine (span_any 40 50 _).mono ?_
  rintro e w3 ⟨rfl, hb⟩
  have G3 : Hid (newer w (w3) ∧ Whole (w3) s 35 #[vi 0, vi 0, .slice none 0 0, .slice none 0 0, .slice none 0 0, .slice none 0 0] ∧ Whole (w3) (s + 1) 4 #[.bool true, .bool false] ∧ Whole (w3) (s + 1 + 1) 3 #[vi 50, vi 30, vi 30] ∧ Whole (w3) (s + 1 + 1 + 1) 89 #[vi 0, vi 1, vi 45, vi 1, vi 2, vi 40] ∧ Whole (w3) b0 38 #[vi 50, vi 60, vi 0, vi 0]) := Lib.hid ⟨newer_trans G2.out.1 hb, G2.out.2.1.below hb G2.out.2.1.lt, G2.out.2.2.1.below hb G2.out.2.2.1.lt, G2.out.2.2.2.1.below hb G2.out.2.2.2.1.lt, G2.out.2.2.2.2.1.below hb G2.out.2.2.2.2.1.lt, G2.out.2.2.2.2.2.below hb G2.out.2.2.2.2.2.lt⟩
  clear hb G2
  obtain ⟨b1, hb1⟩ : ∃ b, b = w3.heap.size := ⟨_, rfl⟩
  have K3 : Hid (newer w (w3.alloc (.cells #[vi 20, vi 30, vi 40, vi 50] 38)) ∧ Whole (w3.alloc (.cells #[vi 20, vi 30, vi 40, vi 50] 38)) s 35 #[vi 0, vi 0, .slice none 0 0, .slice none 0 0, .slice none 0 0, .slice none 0 0] ∧ Whole (w3.alloc (.cells #[vi 20, vi 30, vi 40, vi 50] 38)) (s + 1) 4 #[.bool true, .bool false] ∧ Whole (w3.alloc (.cells #[vi 20, vi 30, vi 40, vi 50] 38)) (s + 1 + 1) 3 #[vi 50, vi 30, vi 30] ∧ Whole (w3.alloc (.cells #[vi 20, vi 30, vi 40, vi 50] 38)) (s + 1 + 1 + 1) 89 #[vi 0, vi 1, vi 45, vi 1, vi 2, vi 40] ∧ Whole (w3.alloc (.cells #[vi 20, vi 30, vi 40, vi 50] 38)) b0 38 #[vi 50, vi 60, vi 0, vi 0] ∧ Whole (w3.alloc (.cells #[vi 20, vi 30, vi 40, vi 50] 38)) b1 38 #[vi 20, vi 30, vi 40, vi 50]) := Lib.hid ⟨newer_trans G3.out.1 (newer_allocH _ _), G3.out.2.1.alloc _, G3.out.2.2.1.alloc _, G3.out.2.2.2.1.alloc _, G3.out.2.2.2.2.1.alloc _, G3.out.2.2.2.2.2.alloc _, by rw [hb1]; exact Whole.made _ _ _⟩
  clear G3
  go_wp2_with fail
  rw [← hb1]
  clear hb1
  refine (span_any 30 40 _).mono ?_
  rintro e w4 ⟨rfl, hb⟩
  have G4 : Hid (newer w (w4) ∧ Whole (w4) s 35 #[vi 0, vi 0, .slice none 0 0, .slice none 0 0, .slice none 0 0, .slice none 0 0] ∧ Whole (w4) (s + 1) 4 #[.bool true, .bool false] ∧ Whole (w4) (s + 1 + 1) 3 #[vi 50, vi 30, vi 30] ∧ Whole (w4) (s + 1 + 1 + 1) 89 #[vi 0, vi 1, vi 45, vi 1, vi 2, vi 40] ∧ Whole (w4) b0 38 #[vi 50, vi 60, vi 0, vi 0] ∧ Whole (w4) b1 38 #[vi 20, vi 30, vi 40, vi 50]) := Lib.hid ⟨newer_trans K3.out.1 hb, K3.out.2.1.below hb K3.out.2.1.lt, K3.out.2.2.1.below hb K3.out.2.2.1.lt, K3.out.2.2.2.1.below hb K3.out.2.2.2.1.lt, K3.out.2.2.2.2.1.below hb K3.out.2.2.2.2.1.lt, K3.out.2.2.2.2.2.1.below hb K3.out.2.2.2.2.2.1.lt, K3.out.2.2.2.2.2.2.below hb K3.out.2.2.2.2.2.2.lt⟩
  clear hb K3
  go_wp2_with fail
  refine (span_any 10 10 _).mono ?_
  rintro e w5 ⟨rfl, hb⟩
  have G5 : Hid (newer w (w5) ∧ Whole (w5) s 35 #[vi 0, vi 0, .slice none 0 0, .slice none 0 0, .slice none 0 0, .slice none 0 0] ∧ Whole (w5) (s + 1) 4 #[.bool true, .bool false] ∧ Whole (w5) (s + 1 + 1) 3 #[vi 50, vi 30, vi 30] ∧ Whole (w5) (s + 1 + 1 + 1) 89 #[vi 0, vi 1, vi 45, vi 1, vi 2, vi 40] ∧ Whole (w5) b0 38 #[vi 50, vi 60, vi 0, vi 0] ∧ Whole (w5) b1 38 #[vi 20, vi 30, vi 40, vi 50]) := Lib.hid ⟨newer_trans G4.out.1 hb, G4.out.2.1.below hb G4.out.2.1.lt, G4.out.2.2.1.below hb G4.out.2.2.1.lt, G4.out.2.2.2.1.below hb G4.out.2.2.2.1.lt, G4.out.2.2.2.2.1.below hb G4.out.2.2.2.2.1.lt, G4.out.2.2.2.2.2.1.below hb G4.out.2.2.2.2.2.1.lt, G4.out.2.2.2.2.2.2.below hb G4.out.2.2.2.2.2.2.lt⟩
  clear hb G4
  obtain ⟨b2, hb2⟩ : ∃ b, b = w5.heap.size := ⟨_, rfl⟩
  have K5 : Hid (newer w (w5.alloc (.cells #[vi 30, vi 40, vi 10, vi 10] 38)) ∧ Whole (w5.alloc (.cells #[vi 30, vi 40, vi 10, vi 10] 38)) s 35 #[vi 0, vi 0, .slice none 0 0, .slice none 0 0, .slice none 0 0, .slice none 0 0] ∧ Whole (w5.alloc (.cells #[vi 30, vi 40, vi 10, vi 10] 38)) (s + 1) 4 #[.bool true, .bool false] ∧ Whole (w5.alloc (.cells #[vi 30, vi 40, vi 10, vi 10] 38)) (s + 1 + 1) 3 #[vi 50, vi 30, vi 30] ∧ Whole (w5.alloc (.cells #[vi 30, vi 40, vi 10, vi 10] 38)) (s + 1 + 1 + 1) 89 #[vi 0, vi 1, vi 45, vi 1, vi 2, vi 40] ∧ Whole (w5.alloc (.cells #[vi 30, vi 40, vi 10, vi 10] 38)) b0 38 #[vi 50, vi 60, vi 0, vi 0] ∧ Whole (w5.alloc (.cells #[vi 30, vi 40, vi 10, vi 10] 38)) b1 38 #[vi 20, vi 30, vi 40, vi 50] ∧ Whole (w5.alloc (.cells #[vi 30, vi 40, vi 10, vi 10] 38)) b2 38 #[vi 30, vi 40, vi 10, vi 10]) := Lib.hid ⟨newer_trans G5.out.1 (newer_allocH _ _), G5.out.2.1.alloc _, G5.out.2.2.1.alloc _, G5.out.2.2.2.1.alloc _, G5.out.2.2.2.2.1.alloc _, G5.out.2.2.2.2.2.1.alloc _, G5.out.2.2.2.2.2.2.alloc _, by rw [hb2]; exact Whole.made _ _ _⟩
  clear G5
  go_wp2_with fail
  rw [← hb2]
  clear hb2
  refine (span_any 60 60 _).mono ?_
  rintro e w6 ⟨rfl, hb⟩
  have G6 : Hid (newer w (w6) ∧ Whole (w6) s 35 #[vi 0, vi 0, .slice none 0 0, .slice none 0 0, .slice none 0 0, .slice none 0 0] ∧ Whole (w6) (s + 1) 4 #[.bool true, .bool false] ∧ Whole (w6) (s + 1 + 1) 3 #[vi 50, vi 30, vi 30] ∧ Whole (w6) (s + 1 + 1 + 1) 89 #[vi 0, vi 1, vi 45, vi 1, vi 2, vi 40] ∧ Whole (w6) b0 38 #[vi 50, vi 60, vi 0, vi 0] ∧ Whole (w6) b1 38 #[vi 20, vi 30, vi 40, vi 50] ∧ Whole (w6) b2 38 #[vi 30, vi 40, vi 10, vi 10]) := Lib.hid ⟨newer_trans K5.out.1 hb, K5.out.2.1.below hb K5.out.2.1.lt, K5.out.2.2.1.below hb K5.out.2.2.1.lt, K5.out.2.2.2.1.below hb K5.out.2.2.2.1.lt, K5.out.2.2.2.2.1.below hb K5.out.2.2.2.2.1.lt, K5.out.2.2.2.2.2.1.below hb K5.out.2.2.2.2.2.1.lt, K5.out.2.2.2.2.2.2.1.below hb K5.out.2.2.2.2.2.2.1.lt, K5.out.2.2.2.2.2.2.2.below hb K5.out.2.2.2.2.2.2.2.lt⟩
  clear hb K5
  go_wp2_with fail
  refine (span_any 60 60 _).mono ?_
  rintro e w7 ⟨rfl, hb⟩
  have G7 : Hid (newer w (w7) ∧ Whole (w7) s 35 #[vi 0, vi 0, .slice none 0 0, .slice none 0 0, .slice none 0 0, .slice none 0 0] ∧ Whole (w7) (s + 1) 4 #[.bool true, .bool false] ∧ Whole (w7) (s + 1 + 1) 3 #[vi 50, vi 30, vi 30] ∧ Whole (w7) (s + 1 + 1 + 1) 89 #[vi 0, vi 1, vi 45, vi 1, vi 2, vi 40] ∧ Whole (w7) b0 38 #[vi 50, vi 60, vi 0, vi 0] ∧ Whole (w7) b1 38 #[vi 20, vi 30, vi 40, vi 50] ∧ Whole (w7) b2 38 #[vi 30, vi 40, vi 10, vi 10]) := Lib.hid ⟨newer_trans G6.out.1 hb, G6.out.2.1.below hb G6.out.2.1.lt, G6.out.2.2.1.below hb G6.out.2.2.1.lt, G6.out.2.2.2.1.below hb G6.out.2.2.2.1.lt, G6.out.2.2.2.2.1.below hb G6.out.2.2.2.2.1.lt, G6.out.2.2.2.2.2.1.below hb G6.out.2.2.2.2.2.1.lt, G6.out.2.2.2.2.2.2.1.below hb G6.out.2.2.2.2.2.2.1.lt, G6.out.2.2.2.2.2.2.2.below hb G6.out.2.2.2.2.2.2.2.lt⟩
  clear hb G6
  obtain ⟨b3, hb3⟩ : ∃ b, b = w7.heap.size := ⟨_, rfl⟩
  have K7 : Hid (newer w (w7.alloc (.cells #[vi 60, vi 60, vi 60, vi 60] 38)) ∧ Whole (w7.alloc (.cells #[vi 60, vi 60, vi 60, vi 60] 38)) s 35 #[vi 0, vi 0, .slice none 0 0, .slice none 0 0, .slice none 0 0, .slice none 0 0] ∧ Whole (w7.alloc (.cells #[vi 60, vi 60, vi 60, vi 60] 38)) (s + 1) 4 #[.bool true, .bool false] ∧ Whole (w7.alloc (.cells #[vi 60, vi 60, vi 60, vi 60] 38)) (s + 1 + 1) 3 #[vi 50, vi 30, vi 30] ∧ Whole (w7.alloc (.cells #[vi 60, vi 60, vi 60, vi 60] 38)) (s + 1 + 1 + 1) 89 #[vi 0, vi 1, vi 45, vi 1, vi 2, vi 40] ∧ Whole (w7.alloc (.cells #[vi 60, vi 60, vi 60, vi 60] 38)) b0 38 #[vi 50, vi 60, vi 0, vi 0] ∧ Whole (w7.alloc (.cells #[vi 60, vi 60, vi 60, vi 60] 38)) b1 38 #[vi 20, vi 30, vi 40, vi 50] ∧ Whole (w7.alloc (.cells #[vi 60, vi 60, vi 60, vi 60] 38)) b2 38 #[vi 30, vi 40, vi 10, vi 10] ∧ Whole (w7.alloc (.cells #[vi 60, vi 60, vi 60, vi 60] 38)) b3 38 #[vi 60, vi 60, vi 60, vi 60]) := Lib.hid ⟨newer_trans G7.out.1 (newer_allocH _ _), G7.out.2.1.alloc _, G7.out.2.2.1.alloc _, G7.out.2.2.2.1.alloc _, G7.out.2.2.2.2.1.alloc _, G7.out.2.2.2.2.2.1.alloc _, G7.out.2.2.2.2.2.2.1.alloc _, G7.out.2.2.2.2.2.2.2.alloc _, by rw [hb3]; exact Whole.made _ _ _⟩
  obtain ⟨bw, hbw⟩ : ∃ bw, bw = (w7.alloc (.cells #[vi 60, vi 60, vi 60, vi 60] 38)).heap.size := ⟨_, rfl⟩
  have HZ : Hid (newer w ((w7.alloc (.cells #[vi 60, vi 60, vi 60, vi 60] 38)).alloc (.cells #[vi 40, vi 0, vi 1, vi 100, vi (-1), .slice (some ⟨b0, 0, none⟩) 2 2, vi 30, vi 0, vi 2, vi 0, vi 0, .slice (some ⟨b1, 0, none⟩) 2 2, vi 20, vi 0, vi 2, vi 500, vi (-1), .slice (some ⟨b2, 0, none⟩) 2 2, vi 10, vi 0, vi 2, vi 0, vi 1, .slice (some ⟨b3, 0, none⟩) 2 2] 87)) ∧ Whole ((w7.alloc (.cells #[vi 60, vi 60, vi 60, vi 60] 38)).alloc (.cells #[vi 40, vi 0, vi 1, vi 100, vi (-1), .slice (some ⟨b0, 0, none⟩) 2 2, vi 30, vi 0, vi 2, vi 0, vi 0, .slice (some ⟨b1, 0, none⟩) 2 2, vi 20, vi 0, vi 2, vi 500, vi (-1), .slice (some ⟨b2, 0, none⟩) 2 2, vi 10, vi 0, vi 2, vi 0, vi 1, .slice (some ⟨b3, 0, none⟩) 2 2] 87)) s 35 #[vi 0, vi 0, .slice none 0 0, .slice none 0 0, .slice none 0 0, .slice none 0 0] ∧ Whole ((w7.alloc (.cells #[vi 60, vi 60, vi 60, vi 60] 38)).alloc (.cells #[vi 40, vi 0, vi 1, vi 100, vi (-1), .slice (some ⟨b0, 0, none⟩) 2 2, vi 30, vi 0, vi 2, vi 0, vi 0, .slice (some ⟨b1, 0, none⟩) 2 2, vi 20, vi 0, vi 2, vi 500, vi (-1), .slice (some ⟨b2, 0, none⟩) 2 2, vi 10, vi 0, vi 2, vi 0, vi 1, .slice (some ⟨b3, 0, none⟩) 2 2] 87)) (s + 1) 4 #[.bool true, .bool false] ∧ Whole ((w7.alloc (.cells #[vi 60, vi 60, vi 60, vi 60] 38)).alloc (.cells #[vi 40, vi 0, vi 1, vi 100, vi (-1), .slice (some ⟨b0, 0, none⟩) 2 2, vi 30, vi 0, vi 2, vi 0, vi 0, .slice (some ⟨b1, 0, none⟩) 2 2, vi 20, vi 0, vi 2, vi 500, vi (-1), .slice (some ⟨b2, 0, none⟩) 2 2, vi 10, vi 0, vi 2, vi 0, vi 1, .slice (some ⟨b3, 0, none⟩) 2 2] 87)) (s + 1 + 1) 3 #[vi 50, vi 30, vi 30] ∧ Whole ((w7.alloc (.cells #[vi 60, vi 60, vi 60, vi 60] 38)).alloc (.cells #[vi 40, vi 0, vi 1, vi 100, vi (-1), .slice (some ⟨b0, 0, none⟩) 2 2, vi 30, vi 0, vi 2, vi 0, vi 0, .slice (some ⟨b1, 0, none⟩) 2 2, vi 20, vi 0, vi 2, vi 500, vi (-1), .slice (some ⟨b2, 0, none⟩) 2 2, vi 10, vi 0, vi 2, vi 0, vi 1, .slice (some ⟨b3, 0, none⟩) 2 2] 87)) (s + 1 + 1 + 1) 89 #[vi 0, vi 1, vi 45, vi 1, vi 2, vi 40] ∧ Whole ((w7.alloc (.cells #[vi 60, vi 60, vi 60, vi 60] 38)).alloc (.cells #[vi 40, vi 0, vi 1, vi 100, vi (-1), .slice (some ⟨b0, 0, none⟩) 2 2, vi 30, vi 0, vi 2, vi 0, vi 0, .slice (some ⟨b1, 0, none⟩) 2 2, vi 20, vi 0, vi 2, vi 500, vi (-1), .slice (some ⟨b2, 0, none⟩) 2 2, vi 10, vi 0, vi 2, vi 0, vi 1, .slice (some ⟨b3, 0, none⟩) 2 2] 87)) b0 38 #[vi 50, vi 60, vi 0, vi 0] ∧ Whole ((w7.alloc (.cells #[vi 60, vi 60, vi 60, vi 60] 38)).alloc (.cells #[vi 40, vi 0, vi 1, vi 100, vi (-1), .slice (some ⟨b0, 0, none⟩) 2 2, vi 30, vi 0, vi 2, vi 0, vi 0, .slice (some ⟨b1, 0, none⟩) 2 2, vi 20, vi 0, vi 2, vi 500, vi (-1), .slice (some ⟨b2, 0, none⟩) 2 2, vi 10, vi 0, vi 2, vi 0, vi 1, .slice (some ⟨b3, 0, none⟩) 2 2] 87)) b1 38 #[vi 20, vi 30, vi 40, vi 50] ∧ Whole ((w7.alloc (.cells #[vi 60, vi 60, vi 60, vi 60] 38)).alloc (.cells #[vi 40, vi 0, vi 1, vi 100, vi (-1), .slice (some ⟨b0, 0, none⟩) 2 2, vi 30, vi 0, vi 2, vi 0, vi 0, .slice (some ⟨b1, 0, none⟩) 2 2, vi 20, vi 0, vi 2, vi 500, vi (-1), .slice (some ⟨b2, 0, none⟩) 2 2, vi 10, vi 0, vi 2, vi 0, vi 1, .slice (some ⟨b3, 0, none⟩) 2 2] 87)) b2 38 #[vi 30, vi 40, vi 10, vi 10] ∧ Whole ((w7.alloc (.cells #[vi 60, vi 60, vi 60, vi 60] 38)).alloc (.cells #[vi 40, vi 0, vi 1, vi 100, vi (-1), .slice (some ⟨b0, 0, none⟩) 2 2, vi 30, vi 0, vi 2, vi 0, vi 0, .slice (some ⟨b1, 0, none⟩) 2 2, vi 20, vi 0, vi 2, vi 500, vi (-1), .slice (some ⟨b2, 0, none⟩) 2 2, vi 10, vi 0, vi 2, vi 0, vi 1, .slice (some ⟨b3, 0, none⟩) 2 2] 87)) b3 38 #[vi 60, vi 60, vi 60, vi 60] ∧ Whole ((w7.alloc (.cells #[vi 60, vi 60, vi 60, vi 60] 38)).alloc (.cells #[vi 40, vi 0, vi 1, vi 100, vi (-1), .slice (some ⟨b0, 0, none⟩) 2 2, vi 30, vi 0, vi 2, vi 0, vi 0, .slice (some ⟨b1, 0, none⟩) 2 2, vi 20, vi 0, vi 2, vi 500, vi (-1), .slice (some ⟨b2, 0, none⟩) 2 2, vi 10, vi 0, vi 2, vi 0, vi 1, .slice (some ⟨b3, 0, none⟩) 2 2] 87)) bw 87 #[vi 40, vi 0, vi 1, vi 100, vi (-1), .slice (some ⟨b0, 0, none⟩) 2 2, vi 30, vi 0, vi 2, vi 0, vi 0, .slice (some ⟨b1, 0, none⟩) 2 2, vi 20, vi 0, vi 2, vi 500, vi (-1), .slice (some ⟨b2, 0, none⟩) 2 2, vi 10, vi 0, vi 2, vi 0, vi 1, .slice (some ⟨b3, 0, none⟩) 2 2]) := Lib.hid ⟨newer_trans K7.out.1 (newer_allocH _ _), K7.out.2.1.alloc _, K7.out.2.2.1.alloc _, K7.out.2.2.2.1.alloc _, K7.out.2.2.2.2.1.alloc _, K7.out.2.2.2.2.2.1.alloc _, K7.out.2.2.2.2.2.2.1.alloc _, K7.out.2.2.2.2.2.2.2.1.alloc _, K7.out.2.2.2.2.2.2.2.2.alloc _, by rw [hbw]; exact Whole.made _ _ _⟩
  have hbe : w7.heap.size + 1 = bw := by rw [hbw]; simp
  obtain ⟨wz, hwz⟩ : ∃ wz, wz = (w7.alloc (.cells #[vi 60, vi 60, vi 60, vi 60] 38)).alloc (.cells #[vi 40, vi 0, vi 1, vi 100, vi (-1), .slice (some ⟨b0, 0, none⟩) 2 2, vi 30, vi 0, vi 2, vi 0, vi 0, .slice (some ⟨b1, 0, none⟩) 2 2, vi 20, vi 0, vi 2, vi 500, vi (-1), .slice (some ⟨b2, 0, none⟩) 2 2, vi 10, vi 0, vi 2, vi 0, vi 1, .slice (some ⟨b3, 0, none⟩) 2 2] 87) := ⟨_, rfl⟩
  rw [← hwz] at HZ
  have z0 := HZ.out.2.1.at 0 rfl
  have z1 := HZ.out.2.1.at 1 rfl
  have z2 := HZ.out.2.1.at 2 rfl
  have z3 := HZ.out.2.1.at 3 rfl
  have z4 := HZ.out.2.1.at 4 rfl
  have z5 := HZ.out.2.1.at 5 rfl
  have f0 := HZ.out.2.1.free 0
  have f1 := HZ.out.2.1.free 1
  have f2 := HZ.out.2.1.free 2
  have f3 := HZ.out.2.1.free 3
  have f4 := HZ.out.2.1.free 4
  have f5 := HZ.out.2.1.free 5
  obtain ⟨i87, hi0, hz0, hz1, hz2⟩ := info_parts Try.info87
  go_wp2_with fail
  rw [← hb3]
  refine wp_buildSlice 32 87 4 _ rfl #[vi 40, vi 0, vi 1, vi 100, vi (-1), .slice (some ⟨b0, 0, none⟩) 2 2, vi 30, vi 0, vi 2, vi 0, vi 0, .slice (some ⟨b1, 0, none⟩) 2 2, vi 20, vi 0, vi 2, vi 500, vi (-1), .slice (some ⟨b2, 0, none⟩) 2 2, vi 10, vi 0, vi 2, vi 0, vi 1, .slice (some ⟨b3, 0, none⟩) 2 2] i87 (.agg #[vi 0, vi 0, vi 0, vi 0, vi 0, .slice none 0 0]) Try.underlying32 hi0 hz0 (by rw [hz1]; decide) (by rw [hz1]; decide) (by rw [hz1]; simp only [List.map_toArray, List.map_cons, List.map_nil]; refine fill24 _ ?_ (vi 40) (vi 0) (vi 1) (vi 100) (vi (-1)) (.slice (some ⟨b0, 0, none⟩) 2 2) (vi 30) (vi 0) (vi 2) (vi 0) (vi 0) (.slice (some ⟨b1, 0, none⟩) 2 2) (vi 20) (vi 0) (vi 2) (vi 500) (vi (-1)) (.slice (some ⟨b2, 0, none⟩) 2 2) (vi 10) (vi 0) (vi 2) (vi 0) (vi 1) (.slice (some ⟨b3, 0, none⟩) 2 2); simp) ?_
  rw [← hwz]
  have hbv : (w7.alloc (.cells #[vi 60, vi 60, vi 60, vi 60] 38)).heap.size = bw := hbw.symm
  rw [hbv]
  clear hbe hwz hbv hi0 hz0 hz1 hz2 hb3 G7 K7 hbw
  have HNE : Hid (s + 1 ≠ s ∧ s + 1 + 1 ≠ s ∧ s + 1 + 1 + 1 ≠ s ∧ b0 ≠ s ∧ b1 ≠ s ∧ b2 ≠ s ∧ b3 ≠ s ∧ bw ≠ s) := Lib.hid (by
    have ne : ∀ {b : Nat} {t : TypeId} {cs : Array Value}, Whole wz b t cs → t ≠ 35 → b ≠ s := fun h ht e => by
      have h1 := HZ.out.2.1
      unfold Whole at h h1
      rw [e, h1] at h
      injection h with h
      injection h with _ h
      exact ht h.symm
    exact ⟨by omega, by omega, by omega, ne HZ.out.2.2.2.2.2.1 (by decide), ne HZ.out.2.2.2.2.2.2.1 (by decide), ne HZ.out.2.2.2.2.2.2.2.1 (by decide), ne HZ.out.2.2.2.2.2.2.2.2.1 (by decide), ne HZ.out.2.2.2.2.2.2.2.2.2 (by decide)⟩)
  go_wp2_with fail
  have hw := ((((((HZ.out.2.1).set 0 (vi 3)).set 1 (vi 2)).set 2 (.slice (some ⟨bw, 0, none⟩) 4 4)).set 3 (.slice (some ⟨s + 1 + 1 + 1, 0, none⟩) 2 2)).set 4 (.slice (some ⟨s + 1, 0, none⟩) 2 2)).set 5 (.slice (some ⟨s + 1 + 1, 0, none⟩) 3 3)
  have hn : newer w (((((((wz).setCell ⟨s, 0, none⟩ (vi 3)).setCell ⟨s, 1, none⟩ (vi 2)).setCell ⟨s, 2, none⟩ (.slice (some ⟨bw, 0, none⟩) 4 4)).setCell ⟨s, 3, none⟩ (.slice (some ⟨s + 1 + 1 + 1, 0, none⟩) 2 2)).setCell ⟨s, 4, none⟩ (.slice (some ⟨s + 1, 0, none⟩) 2 2)).setCell ⟨s, 5, none⟩ (.slice (some ⟨s + 1 + 1, 0, none⟩) 3 3)) := ((((((HZ.out.1).setCell (p := ⟨s, 0, none⟩) (by rw [← HSE.out]; exact Nat.le_refl _) (vi 3)).setCell (p := ⟨s, 1, none⟩) (by rw [← HSE.out]; exact Nat.le_refl _) (vi 2)).setCell (p := ⟨s, 2, none⟩) (by rw [← HSE.out]; exact Nat.le_refl _) (.slice (some ⟨bw, 0, none⟩) 4 4)).setCell (p := ⟨s, 3, none⟩) (by rw [← HSE.out]; exact Nat.le_refl _) (.slice (some ⟨s + 1 + 1 + 1, 0, none⟩) 2 2)).setCell (p := ⟨s, 4, none⟩) (by rw [← HSE.out]; exact Nat.le_refl _) (.slice (some ⟨s + 1, 0, none⟩) 2 2)).setCell (p := ⟨s, 5, none⟩) (by rw [← HSE.out]; exact Nat.le_refl _) (.slice (some ⟨s + 1 + 1, 0, none⟩) 3 3)
  have hfar : ∀ {b : Nat} {t : TypeId} {cs : Array Value}, b ≠ s ∧ Whole wz b t cs → Whole (((((((wz).setCell ⟨s, 0, none⟩ (vi 3)).setCell ⟨s, 1, none⟩ (vi 2)).setCell ⟨s, 2, none⟩ (.slice (some ⟨bw, 0, none⟩) 4 4)).setCell ⟨s, 3, none⟩ (.slice (some ⟨s + 1 + 1 + 1, 0, none⟩) 2 2)).setCell ⟨s, 4, none⟩ (.slice (some ⟨s + 1, 0, none⟩) 2 2)).setCell ⟨s, 5, none⟩ (.slice (some ⟨s + 1 + 1, 0, none⟩) 3 3)) b t cs := fun h => ((((((h.2.far (p := ⟨s, 0, none⟩) h.1 _).far (p := ⟨s, 1, none⟩) h.1 _).far (p := ⟨s, 2, none⟩) h.1 _).far (p := ⟨s, 3, none⟩) h.1 _).far (p := ⟨s, 4, none⟩) h.1 _).far (p := ⟨s, 5, none⟩) h.1 _)
  have k0 := hw.at 0 (v := vi 3) rfl
  have k1 := hw.at 1 (v := vi 2) rfl
  have k2 := hw.at 2 (v := .slice (some ⟨bw, 0, none⟩) 4 4) rfl
  have k3 := hw.at 3 (v := .slice (some ⟨s + 1 + 1 + 1, 0, none⟩) 2 2) rfl
  have k4 := hw.at 4 (v := .slice (some ⟨s + 1, 0, none⟩) 2 2) rfl
  have k5 := hw.at 5 (v := .slice (some ⟨s + 1 + 1, 0, none⟩) 3 3) rfl
  have HEND : Hid ((∃ p : Pm, pmV p = .agg #[vi 3, vi 2, .slice (some ⟨bw, 0, none⟩) 4 4, .slice (some ⟨s + 1 + 1 + 1, 0, none⟩) 2 2, .slice (some ⟨s + 1, 0, none⟩) 2 2, .slice (some ⟨s + 1 + 1, 0, none⟩) 3 3] ∧ p.pj = ridgeP ∧ PmOk p (((((((wz).setCell ⟨s, 0, none⟩ (vi 3)).setCell ⟨s, 1, none⟩ (vi 2)).setCell ⟨s, 2, none⟩ (.slice (some ⟨bw, 0, none⟩) 4 4)).setCell ⟨s, 3, none⟩ (.slice (some ⟨s + 1 + 1 + 1, 0, none⟩) 2 2)).setCell ⟨s, 4, none⟩ (.slice (some ⟨s + 1, 0, none⟩) 2 2)).setCell ⟨s, 5, none⟩ (.slice (some ⟨s + 1 + 1, 0, none⟩) 3 3)) ∧ p.ps.length ≤ p.pc) ∧ newer w (((((((wz).setCell ⟨s, 0, none⟩ (vi 3)).setCell ⟨s, 1, none⟩ (vi 2)).setCell ⟨s, 2, none⟩ (.slice (some ⟨bw, 0, none⟩) 4 4)).setCell ⟨s, 3, none⟩ (.slice (some ⟨s + 1 + 1 + 1, 0, none⟩) 2 2)).setCell ⟨s, 4, none⟩ (.slice (some ⟨s + 1, 0, none⟩) 2 2)).setCell ⟨s, 5, none⟩ (.slice (some ⟨s + 1 + 1, 0, none⟩) 3 3))) := Lib.hid (by
    refine ⟨⟨⟨3, 2, [⟨⟨40, 0, 1, 100, -1, [⟨50, 60⟩, ⟨0, 0⟩]⟩, some ⟨b0, 0, none⟩, 2⟩, ⟨⟨30, 0, 2, 0, 0, [⟨20, 30⟩, ⟨40, 50⟩]⟩, some ⟨b1, 0, none⟩, 2⟩, ⟨⟨20, 0, 2, 500, -1, [⟨30, 40⟩, ⟨10, 10⟩]⟩, some ⟨b2, 0, none⟩, 2⟩, ⟨⟨10, 0, 2, 0, 1, [⟨60, 60⟩, ⟨60, 60⟩]⟩, some ⟨b3, 0, none⟩, 2⟩], some ⟨bw, 0, none⟩, 4, [⟨0, 1, 45⟩, ⟨1, 2, 40⟩], some ⟨s + 1 + 1 + 1, 0, none⟩, 2, [true, false], some ⟨s + 1, 0, none⟩, 2, [50, 30, 30], some ⟨s + 1 + 1, 0, none⟩, 3⟩, rfl, rfl, ⟨?_, ?_, ?_, ?_, ?_⟩, by simp⟩, hn⟩
    · exact row_of_whole (enc := wkL) (s := 6) (fun _ => rfl) (hfar ⟨HNE.out.2.2.2.2.2.2.2, HZ.out.2.2.2.2.2.2.2.2.2⟩) rfl
    · intro x hx
      simp only [List.mem_cons, List.not_mem_nil, or_false] at hx
      rcases hx with rfl | rfl | rfl | rfl
      · exact row_of_whole (enc := rgL) (s := 2) (fun _ => rfl) (hfar ⟨HNE.out.2.2.2.1, HZ.out.2.2.2.2.2.1⟩) rfl
      · exact row_of_whole (enc := rgL) (s := 2) (fun _ => rfl) (hfar ⟨HNE.out.2.2.2.2.1, HZ.out.2.2.2.2.2.2.1⟩) rfl
      · exact row_of_whole (enc := rgL) (s := 2) (fun _ => rfl) (hfar ⟨HNE.out.2.2.2.2.2.1, HZ.out.2.2.2.2.2.2.2.1⟩) rfl
      · exact row_of_whole (enc := rgL) (s := 2) (fun _ => rfl) (hfar ⟨HNE.out.2.2.2.2.2.2.1, HZ.out.2.2.2.2.2.2.2.2.1⟩) rfl
    · exact row_of_whole (enc := ndL) (s := 3) (fun _ => rfl) (hfar ⟨HNE.out.2.2.1, HZ.out.2.2.2.2.1⟩) rfl
    · exact row_of_whole (enc := boL) (s := 1) (fun _ => rfl) (hfar ⟨HNE.out.1, HZ.out.2.2.1⟩) rfl
    · exact row_of_whole (enc := intL) (s := 1) (fun _ => rfl) (hfar ⟨HNE.out.2.1, HZ.out.2.2.2.1⟩) rfl)
  clear hw hn hfar z0 z1 z2 z3 z4 z5 f0 f1 f2 f3 f4 f5
  obtain ⟨⟨p, hp, hpj, hpo, hpc⟩, hn⟩ := HEND.out
  exact bodyPost_ret (v := .agg #[vi 3, vi 2, .slice (some ⟨bw, 0, none⟩) 4 4, .slice (some ⟨s + 1 + 1 + 1, 0, none⟩) 2 2, .slice (some ⟨s + 1, 0, none⟩) 2 2, .slice (some ⟨s + 1 + 1, 0, none⟩) 3 3]) (by simp [results, Try.results45, go_sem, k0, k1, k2, k3, k4, k5]) rfl ⟨⟨p, by rw [hp], hpj, hpo, hpc⟩, hn⟩
end Go.Proofs.Ytpnpnfjhjjdmgaa
