/- The example's project with the memory that it owns, and with some numbers changed. -/
import Derived.Test.YtpnpnfjhjjdmgaaBO
namespace Go.Proofs.Ytpnpnfjhjjdmgaa
open Go.RowKit Go.Deep

/-- The example's project with another village, due and range. -/
def rP (v1 d1 l0 h0 : Int) : Pj := ⟨3, 2, [⟨40, 0, 1, 100, -1, [⟨l0, h0⟩, ⟨0, 0⟩]⟩, ⟨30, 0, 2, 0, v1, [⟨20, 30⟩, ⟨40, 50⟩]⟩, ⟨20, 0, 2, 500, -1, [⟨30, 40⟩, ⟨10, 10⟩]⟩, ⟨10, 0, 2, 0, 1, [⟨60, 60⟩, ⟨60, 60⟩]⟩], [⟨0, 1, 45⟩, ⟨1, 2, d1⟩], [true, false], [50, 30, 30]⟩
def rPm (v1 d1 l0 h0 : Int) (bw n0 v0 p0 b0 b1 b2 b3 : Nat) : Pm := ⟨3, 2, [⟨⟨40, 0, 1, 100, -1, [⟨l0, h0⟩, ⟨0, 0⟩]⟩, some ⟨b0, 0, none⟩, 2⟩, ⟨⟨30, 0, 2, 0, v1, [⟨20, 30⟩, ⟨40, 50⟩]⟩, some ⟨b1, 0, none⟩, 2⟩, ⟨⟨20, 0, 2, 500, -1, [⟨30, 40⟩, ⟨10, 10⟩]⟩, some ⟨b2, 0, none⟩, 2⟩, ⟨⟨10, 0, 2, 0, 1, [⟨60, 60⟩, ⟨60, 60⟩]⟩, some ⟨b3, 0, none⟩, 2⟩], some ⟨bw, 0, none⟩, 4, [⟨0, 1, 45⟩, ⟨1, 2, d1⟩], some ⟨n0, 0, none⟩, 2, [true, false], some ⟨v0, 0, none⟩, 2, [50, 30, 30], some ⟨p0, 0, none⟩, 3⟩
structure RM (v1 d1 l0 h0 : Int) (B bw n0 v0 p0 b0 b1 b2 b3 : Nat) (W : World) : Prop where
  ws : Whole W bw 87 #[vi 40, vi 0, vi 1, vi 100, vi (-1), .slice (some ⟨b0, 0, none⟩) 2 2, vi 30, vi 0, vi 2, vi 0, vi v1, .slice (some ⟨b1, 0, none⟩) 2 2, vi 20, vi 0, vi 2, vi 500, vi (-1), .slice (some ⟨b2, 0, none⟩) 2 2, vi 10, vi 0, vi 2, vi 0, vi 1, .slice (some ⟨b3, 0, none⟩) 2 2]
  a0 : Whole W b0 38 #[vi l0, vi h0, vi 0, vi 0]
  a1 : Whole W b1 38 #[vi 20, vi 30, vi 40, vi 50]
  a2 : Whole W b2 38 #[vi 30, vi 40, vi 10, vi 10]
  a3 : Whole W b3 38 #[vi 60, vi 60, vi 60, vi 60]
  ns : Whole W n0 89 #[vi 0, vi 1, vi 45, vi 1, vi 2, vi d1]
  vs : Whole W v0 4 #[.bool true, .bool false]
  ps : Whole W p0 3 #[vi 50, vi 30, vi 30]
  lo : B ≤ bw ∧ B ≤ n0 ∧ B ≤ b0
  ne : b1 ≠ b0 ∧ b2 ≠ b0 ∧ b3 ≠ b0
section
variable {v1 d1 l0 h0 : Int} {B bw n0 v0 p0 b0 b1 b2 b3 : Nat} {W W' : World}
theorem RM.next (h : RM v1 d1 l0 h0 B bw n0 v0 p0 b0 b1 b2 b3 W) (hb : newer W W') : RM v1 d1 l0 h0 B bw n0 v0 p0 b0 b1 b2 b3 W' :=
  ⟨h.ws.below hb h.ws.lt, h.a0.below hb h.a0.lt, h.a1.below hb h.a1.lt, h.a2.below hb h.a2.lt, h.a3.below hb h.a3.lt, h.ns.below hb h.ns.lt, h.vs.below hb h.vs.lt, h.ps.below hb h.ps.lt, h.lo, h.ne⟩
theorem RM.more {B' : Nat} (h : RM v1 d1 l0 h0 B bw n0 v0 p0 b0 b1 b2 b3 W) (hb : B' ≤ B) : RM v1 d1 l0 h0 B' bw n0 v0 p0 b0 b1 b2 b3 W :=
  ⟨h.ws, h.a0, h.a1, h.a2, h.a3, h.ns, h.vs, h.ps, ⟨Nat.le_trans hb h.lo.1, Nat.le_trans hb h.lo.2.1, Nat.le_trans hb h.lo.2.2⟩, h.ne⟩
theorem whole_ne {b b' : Nat} {t t' : TypeId} {cs cs' : Array Value} (h : Whole W b t cs) (h' : Whole W b' t' cs') (ht : t ≠ t') : b ≠ b' := by
  intro e
  unfold Whole at h h'
  rw [e, h'] at h
  injection h with h
  injection h with _ h
  exact ht h.symm
theorem RM.far (h : RM v1 d1 l0 h0 B bw n0 v0 p0 b0 b1 b2 b3 W) {b i : Nat} {t : TypeId} {cs : Array Value} (hw : Whole W b t cs) (h1 : t ≠ 87) (h2 : t ≠ 38) (h3 : t ≠ 89) (h4 : t ≠ 4) (h5 : t ≠ 3) (u : Value) : RM v1 d1 l0 h0 B bw n0 v0 p0 b0 b1 b2 b3 (W.setCell ⟨b, i, none⟩ u) :=
  ⟨h.ws.far (p := ⟨b, i, none⟩) (whole_ne h.ws hw (Ne.symm h1)) u, h.a0.far (p := ⟨b, i, none⟩) (whole_ne h.a0 hw (Ne.symm h2)) u, h.a1.far (p := ⟨b, i, none⟩) (whole_ne h.a1 hw (Ne.symm h2)) u, h.a2.far (p := ⟨b, i, none⟩) (whole_ne h.a2 hw (Ne.symm h2)) u, h.a3.far (p := ⟨b, i, none⟩) (whole_ne h.a3 hw (Ne.symm h2)) u, h.ns.far (p := ⟨b, i, none⟩) (whole_ne h.ns hw (Ne.symm h3)) u, h.vs.far (p := ⟨b, i, none⟩) (whole_ne h.vs hw (Ne.symm h4)) u, h.ps.far (p := ⟨b, i, none⟩) (whole_ne h.ps hw (Ne.symm h5)) u, h.lo, h.ne⟩
theorem RM.setV (h : RM v1 d1 l0 h0 B bw n0 v0 p0 b0 b1 b2 b3 W) (v : Int) : RM v d1 l0 h0 B bw n0 v0 p0 b0 b1 b2 b3 (W.setCell ⟨bw, 10, none⟩ (vi v)) :=
  ⟨h.ws.set 10 (vi v), h.a0.far (p := ⟨bw, 10, none⟩) (whole_ne h.a0 h.ws (by decide)) _, h.a1.far (p := ⟨bw, 10, none⟩) (whole_ne h.a1 h.ws (by decide)) _, h.a2.far (p := ⟨bw, 10, none⟩) (whole_ne h.a2 h.ws (by decide)) _, h.a3.far (p := ⟨bw, 10, none⟩) (whole_ne h.a3 h.ws (by decide)) _, h.ns.far (p := ⟨bw, 10, none⟩) (whole_ne h.ns h.ws (by decide)) _, h.vs.far (p := ⟨bw, 10, none⟩) (whole_ne h.vs h.ws (by decide)) _, h.ps.far (p := ⟨bw, 10, none⟩) (whole_ne h.ps h.ws (by decide)) _, h.lo, h.ne⟩
theorem RM.setN (h : RM v1 d1 l0 h0 B bw n0 v0 p0 b0 b1 b2 b3 W) (v : Int) : RM v1 v l0 h0 B bw n0 v0 p0 b0 b1 b2 b3 (W.setCell ⟨n0, 5, none⟩ (vi v)) :=
  ⟨h.ws.far (p := ⟨n0, 5, none⟩) (whole_ne h.ws h.ns (by decide)) _, h.a0.far (p := ⟨n0, 5, none⟩) (whole_ne h.a0 h.ns (by decide)) _, h.a1.far (p := ⟨n0, 5, none⟩) (whole_ne h.a1 h.ns (by decide)) _, h.a2.far (p := ⟨n0, 5, none⟩) (whole_ne h.a2 h.ns (by decide)) _, h.a3.far (p := ⟨n0, 5, none⟩) (whole_ne h.a3 h.ns (by decide)) _, h.ns.set 5 (vi v), h.vs.far (p := ⟨n0, 5, none⟩) (whole_ne h.vs h.ns (by decide)) _, h.ps.far (p := ⟨n0, 5, none⟩) (whole_ne h.ps h.ns (by decide)) _, h.lo, h.ne⟩
theorem RM.setA (h : RM v1 d1 l0 h0 B bw n0 v0 p0 b0 b1 b2 b3 W) (x y : Int) : RM v1 d1 x y B bw n0 v0 p0 b0 b1 b2 b3 ((W.setCell ⟨b0, 0, none⟩ (vi x)).setCell ⟨b0, 1, none⟩ (vi y)) := by
  have far : ∀ {b : Nat} {t : TypeId} {cs : Array Value}, Whole W b t cs → b ≠ b0 → Whole ((W.setCell ⟨b0, 0, none⟩ (vi x)).setCell ⟨b0, 1, none⟩ (vi y)) b t cs := fun hw hn => (hw.far (p := ⟨b0, 0, none⟩) hn _).far (p := ⟨b0, 1, none⟩) hn _
  exact ⟨far h.ws (whole_ne h.ws h.a0 (by decide)), (h.a0.set 0 (vi x)).set 1 (vi y), far h.a1 h.ne.1, far h.a2 h.ne.2.1, far h.a3 h.ne.2.2, far h.ns (whole_ne h.ns h.a0 (by decide)), far h.vs (whole_ne h.vs h.a0 (by decide)), far h.ps (whole_ne h.ps h.a0 (by decide)), h.lo, h.ne⟩
theorem RM.ok (h : RM v1 d1 l0 h0 B bw n0 v0 p0 b0 b1 b2 b3 W) : PmOk (rPm v1 d1 l0 h0 bw n0 v0 p0 b0 b1 b2 b3) W := by
  refine ⟨?_, ?_, ?_, ?_, ?_⟩
  · exact row_of_whole (enc := wkL) (s := 6) (fun _ => rfl) h.ws rfl
  · intro x hx
    simp only [rPm, List.mem_cons, List.not_mem_nil, or_false] at hx
    rcases hx with rfl | rfl | rfl | rfl
    · exact row_of_whole (enc := rgL) (s := 2) (fun _ => rfl) h.a0 rfl
    · exact row_of_whole (enc := rgL) (s := 2) (fun _ => rfl) h.a1 rfl
    · exact row_of_whole (enc := rgL) (s := 2) (fun _ => rfl) h.a2 rfl
    · exact row_of_whole (enc := rgL) (s := 2) (fun _ => rfl) h.a3 rfl
  · exact row_of_whole (enc := ndL) (s := 3) (fun _ => rfl) h.ns rfl
  · exact row_of_whole (enc := boL) (s := 1) (fun _ => rfl) h.vs rfl
  · exact row_of_whole (enc := intL) (s := 1) (fun _ => rfl) h.ps rfl
theorem RM.pj : (rPm v1 d1 l0 h0 bw n0 v0 p0 b0 b1 b2 b3).pj = rP v1 d1 l0 h0 := rfl
theorem RM.few : PmFew (rPm v1 d1 l0 h0 bw n0 v0 p0 b0 b1 b2 b3) := by
  refine ⟨by simp [rPm], ?_, by simp [rPm], by simp [rPm], by simp [rPm]⟩
  intro x hx
  simp only [rPm, List.mem_cons, List.not_mem_nil, or_false] at hx
  rcases hx with rfl | rfl | rfl | rfl <;> simp
end
theorem rP_ridge : rP 0 40 50 60 = ridgeP := rfl
set_option maxRecDepth 100000 in
set_option maxHeartbeats 4000000 in
theorem ridge_own (w : World) :
    Calls Try.prog 45 #[] w fun e w' => (∃ bw n0 v0 p0 b0 b1 b2 b3 : Nat, e = .returned (.agg #[vi 3, vi 2, .slice (some ⟨bw, 0, none⟩) 4 4, .slice (some ⟨n0, 0, none⟩) 2 2, .slice (some ⟨v0, 0, none⟩) 2 2, .slice (some ⟨p0, 0, none⟩) 3 3]) ∧ RM 0 40 50 60 w.heap.size bw n0 v0 p0 b0 b1 b2 b3 w') ∧ newer w w' := by
  obtain ⟨s, hs⟩ : ∃ s, s = w.heap.size := ⟨_, rfl⟩
  have H0 : Hid (newer w ((((w.alloc (.cells #[vi 0, vi 0, .slice none 0 0, .slice none 0 0, .slice none 0 0, .slice none 0 0] 35)).alloc (.cells #[.bool true, .bool false] 4)).alloc (.cells #[vi 50, vi 30, vi 30] 3)).alloc (.cells #[vi 0, vi 1, vi 45, vi 1, vi 2, vi 40] 89)) ∧ Whole ((((w.alloc (.cells #[vi 0, vi 0, .slice none 0 0, .slice none 0 0, .slice none 0 0, .slice none 0 0] 35)).alloc (.cells #[.bool true, .bool false] 4)).alloc (.cells #[vi 50, vi 30, vi 30] 3)).alloc (.cells #[vi 0, vi 1, vi 45, vi 1, vi 2, vi 40] 89)) s 35 #[vi 0, vi 0, .slice none 0 0, .slice none 0 0, .slice none 0 0, .slice none 0 0] ∧ Whole ((((w.alloc (.cells #[vi 0, vi 0, .slice none 0 0, .slice none 0 0, .slice none 0 0, .slice none 0 0] 35)).alloc (.cells #[.bool true, .bool false] 4)).alloc (.cells #[vi 50, vi 30, vi 30] 3)).alloc (.cells #[vi 0, vi 1, vi 45, vi 1, vi 2, vi 40] 89)) (s + 1) 4 #[.bool true, .bool false] ∧ Whole ((((w.alloc (.cells #[vi 0, vi 0, .slice none 0 0, .slice none 0 0, .slice none 0 0, .slice none 0 0] 35)).alloc (.cells #[.bool true, .bool false] 4)).alloc (.cells #[vi 50, vi 30, vi 30] 3)).alloc (.cells #[vi 0, vi 1, vi 45, vi 1, vi 2, vi 40] 89)) (s + 1 + 1) 3 #[vi 50, vi 30, vi 30] ∧ Whole ((((w.alloc (.cells #[vi 0, vi 0, .slice none 0 0, .slice none 0 0, .slice none 0 0, .slice none 0 0] 35)).alloc (.cells #[.bool true, .bool false] 4)).alloc (.cells #[vi 50, vi 30, vi 30] 3)).alloc (.cells #[vi 0, vi 1, vi 45, vi 1, vi 2, vi 40] 89)) (s + 1 + 1 + 1) 89 #[vi 0, vi 1, vi 45, vi 1, vi 2, vi 40]) := Lib.hid (by
    have m0 := (((Whole.made w 35 #[vi 0, vi 0, .slice none 0 0, .slice none 0 0, .slice none 0 0, .slice none 0 0]).alloc (.cells #[.bool true, .bool false] 4)).alloc (.cells #[vi 50, vi 30, vi 30] 3)).alloc (.cells #[vi 0, vi 1, vi 45, vi 1, vi 2, vi 40] 89)
    have m1 := ((Whole.made (w.alloc (.cells #[vi 0, vi 0, .slice none 0 0, .slice none 0 0, .slice none 0 0, .slice none 0 0] 35)) 4 #[.bool true, .bool false]).alloc (.cells #[vi 50, vi 30, vi 30] 3)).alloc (.cells #[vi 0, vi 1, vi 45, vi 1, vi 2, vi 40] 89)
    have m2 := (Whole.made ((w.alloc (.cells #[vi 0, vi 0, .slice none 0 0, .slice none 0 0, .slice none 0 0, .slice none 0 0] 35)).alloc (.cells #[.bool true, .bool false] 4)) 3 #[vi 50, vi 30, vi 30]).alloc (.cells #[vi 0, vi 1, vi 45, vi 1, vi 2, vi 40] 89)
    have m3 := Whole.made (((w.alloc (.cells #[vi 0, vi 0, .slice none 0 0, .slice none 0 0, .slice none 0 0, .slice none 0 0] 35)).alloc (.cells #[.bool true, .bool false] 4)).alloc (.cells #[vi 50, vi 30, vi 30] 3)) 89 #[vi 0, vi 1, vi 45, vi 1, vi 2, vi 40]
    simp only [World.size_alloc, ← hs] at m0 m1 m2 m3
    exact ⟨newer_trans (newer_trans (newer_trans (newer_allocH w _) (newer_allocH _ _)) (newer_allocH _ _)) (newer_allocH _ _), m0, m1, m2, m3⟩)
  have HSE := Lib.hid hs
  go_enter Try.func45, Try.ntmps45
  go_wp2_with fail
  rw [← hs]
  clear hs
  refine (span_any 50 60 _).mono ?_
  rintro e w1 ⟨rfl, hb⟩
  have G1 : Hid (newer w (w1) ∧ Whole (w1) s 35 #[vi 0, vi 0, .slice none 0 0, .slice none 0 0, .slice none 0 0, .slice none 0 0] ∧ Whole (w1) (s + 1) 4 #[.bool true, .bool false] ∧ Whole (w1) (s + 1 + 1) 3 #[vi 50, vi 30, vi 30] ∧ Whole (w1) (s + 1 + 1 + 1) 89 #[vi 0, vi 1, vi 45, vi 1, vi 2, vi 40]) := Lib.hid ⟨newer_trans H0.out.1 hb, H0.out.2.1.below hb H0.out.2.1.lt, H0.out.2.2.1.below hb H0.out.2.2.1.lt, H0.out.2.2.2.1.below hb H0.out.2.2.2.1.lt, H0.out.2.2.2.2.below hb H0.out.2.2.2.2.lt⟩
  clear hb H0
  obtain ⟨b0, hb0⟩ : ∃ b, b = w1.heap.size := ⟨_, rfl⟩
  have HB0 : Hid (s ≤ b0) := Lib.hid (by rw [hb0, HSE.out]; exact G1.out.1.size)
  have K1 : Hid (newer w (w1.alloc (.cells #[vi 50, vi 60, vi 0, vi 0] 38)) ∧ Whole (w1.alloc (.cells #[vi 50, vi 60, vi 0, vi 0] 38)) s 35 #[vi 0, vi 0, .slice none 0 0, .slice none 0 0, .slice none 0 0, .slice none 0 0] ∧ Whole (w1.alloc (.cells #[vi 50, vi 60, vi 0, vi 0] 38)) (s + 1) 4 #[.bool true, .bool false] ∧ Whole (w1.alloc (.cells #[vi 50, vi 60, vi 0, vi 0] 38)) (s + 1 + 1) 3 #[vi 50, vi 30, vi 30] ∧ Whole (w1.alloc (.cells #[vi 50, vi 60, vi 0, vi 0] 38)) (s + 1 + 1 + 1) 89 #[vi 0, vi 1, vi 45, vi 1, vi 2, vi 40] ∧ Whole (w1.alloc (.cells #[vi 50, vi 60, vi 0, vi 0] 38)) b0 38 #[vi 50, vi 60, vi 0, vi 0]) := Lib.hid ⟨newer_trans G1.out.1 (newer_allocH _ _), G1.out.2.1.alloc _, G1.out.2.2.1.alloc _, G1.out.2.2.2.1.alloc _, G1.out.2.2.2.2.alloc _, by rw [hb0]; exact Whole.made _ _ _⟩
  clear G1
  go_wp2_with fail
  rw [← hb0]
  clear hb0
  refine (span_any 20 30 _).mono ?_
  rintro e w2 ⟨rfl, hb⟩
  have G2 : Hid (newer w (w2) ∧ Whole (w2) s 35 #[vi 0, vi 0, .slice none 0 0, .slice none 0 0, .slice none 0 0, .slice none 0 0] ∧ Whole (w2) (s + 1) 4 #[.bool true, .bool false] ∧ Whole (w2) (s + 1 + 1) 3 #[vi 50, vi 30, vi 30] ∧ Whole (w2) (s + 1 + 1 + 1) 89 #[vi 0, vi 1, vi 45, vi 1, vi 2, vi 40] ∧ Whole (w2) b0 38 #[vi 50, vi 60, vi 0, vi 0]) := Lib.hid ⟨newer_trans K1.out.1 hb, K1.out.2.1.below hb K1.out.2.1.lt, K1.out.2.2.1.below hb K1.out.2.2.1.lt, K1.out.2.2.2.1.below hb K1.out.2.2.2.1.lt, K1.out.2.2.2.2.1.below hb K1.out.2.2.2.2.1.lt, K1.out.2.2.2.2.2.below hb K1.out.2.2.2.2.2.lt⟩
  clear hb K1
  go_wp2_with fail
  refine (span_any 40 50 _).mono ?_
  rintro e w3 ⟨rfl, hb⟩
  have G3 : Hid (newer w (w3) ∧ Whole (w3) s 35 #[vi 0, vi 0, .slice none 0 0, .slice none 0 0, .slice none 0 0, .slice none 0 0] ∧ Whole (w3) (s + 1) 4 #[.bool true, .bool false] ∧ Whole (w3) (s + 1 + 1) 3 #[vi 50, vi 30, vi 30] ∧ Whole (w3) (s + 1 + 1 + 1) 89 #[vi 0, vi 1, vi 45, vi 1, vi 2, vi 40] ∧ Whole (w3) b0 38 #[vi 50, vi 60, vi 0, vi 0]) := Lib.hid ⟨newer_trans G2.out.1 hb, G2.out.2.1.below hb G2.out.2.1.lt, G2.out.2.2.1.below hb G2.out.2.2.1.lt, G2.out.2.2.2.1.below hb G2.out.2.2.2.1.lt, G2.out.2.2.2.2.1.below hb G2.out.2.2.2.2.1.lt, G2.out.2.2.2.2.2.below hb G2.out.2.2.2.2.2.lt⟩
  clear hb G2
  obtain ⟨b1, hb1⟩ : ∃ b, b = w3.heap.size := ⟨_, rfl⟩
  have HL1 : Hid (b0 < b1) := Lib.hid (by rw [hb1]; exact G3.out.2.2.2.2.2.lt)
  have K3 : Hid (newer w (w3.alloc (.cells #[vi 20, vi 30, vi 40, vi 50] 38)) ∧ Whole (w3.alloc (.cells #[vi 20, vi 30, vi 40, vi 50] 38)) s 35 #[vi 0, vi 0, .slice none 0 0, .slice none 0 0, .slice none 0 0, .slice none 0 0] ∧ Whole (w3.alloc (.cells #[vi 20, vi 30, vi 40, vi 50] 38)) (s + 1) 4 #[.bool true, .bool false] ∧ Whole (w3.alloc (.cells #[vi 20, vi 30, vi 40, vi 50] 38)) (s + 1 + 1) 3 #[vi 50, vi 30, vi 30] ∧ Whole (w3.alloc (.cells #[vi 20, vi 30, vi 40, vi 50] 38)) (s + 1 + 1 + 1) 89 #[vi 0, vi 1, vi 45, vi 1, vi 2, vi 40] ∧ Whole (w3.alloc (.cells #[vi 20, vi 30, vi 40, vi 50] 38)) b0 38 #[vi 50, vi 60, vi 0, vi 0] ∧ Whole (w3.alloc (.cells #[vi 20, vi 30, vi 40, vi 50] 38)) b1 38 #[vi 20, vi 30, vi 40, vi 50]) := Lib.hid ⟨newer_trans G3.out.1 (newer_allocH _ _), G3.out.2.1.alloc _, G3.out.2.2.1.alloc _, G3.out.2.2.2.1.alloc _, G3.out.2.2.2.2.1.alloc _, G3.out.2.2.2.2.2.alloc _, by rw [hb1]; exact Whole.made _ _ _⟩
  clear G3
  go_wp2_with fail
  rw [← hb1]
  clear hb1
  refine (span_any 30 40 _).mono ?_
  rintro e w4 ⟨rfl, hb⟩
  have G4 : Hid (newer w (w4) ∧ Whole (w4) s 35 #[vi 0, vi 0, .slice none 0 0, .slice none 0 0, .slice none 0 0, .slice none 0 0] ∧ Whole (w4) (s + 1) 4 #[.bool true, .bool false] ∧ Whole (w4) (s + 1 + 1) 3 #[vi 50, vi 30, vi 30] ∧ Whole (w4) (s + 1 + 1 + 1) 89 #[vi 0, vi 1, vi 45, vi 1, vi 2, vi 40] ∧ Whole (w4) b0 38 #[vi 50, vi 60, vi 0, vi 0] ∧ Whole (w4) b1 38 #[vi 20, vi 30, vi 40, vi 50]) := Lib.hid ⟨newer_trans K3.out.1 hb, K3.out.2.1.below hb K3.out.2.1.lt, K3.out.2.2.1.below hb K3.out.2.2.1.lt, K3.out.2.2.2.1.below hb K3.out.2.2.2.1.lt, K3.out.2.2.2.2.1.below hb K3.out.2.2.2.2.1.lt, K3.out.2.2.2.2.2.1.below hb K3.out.2.2.2.2.2.1.lt, K3.out.2.2.2.2.2.2.below hb K3.out.2.2.2.2.2.2.lt⟩
  clear hb K3
  go_wp2_with fail
  refine (span_any 10 10 _).mono ?_
  rintro e w5 ⟨rfl, hb⟩
  have G5 : Hid (newer w (w5) ∧ Whole (w5) s 35 #[vi 0, vi 0, .slice none 0 0, .slice none 0 0, .slice none 0 0, .slice none 0 0] ∧ Whole (w5) (s + 1) 4 #[.bool true, .bool false] ∧ Whole (w5) (s + 1 + 1) 3 #[vi 50, vi 30, vi 30] ∧ Whole (w5) (s + 1 + 1 + 1) 89 #[vi 0, vi 1, vi 45, vi 1, vi 2, vi 40] ∧ Whole (w5) b0 38 #[vi 50, vi 60, vi 0, vi 0] ∧ Whole (w5) b1 38 #[vi 20, vi 30, vi 40, vi 50]) := Lib.hid ⟨newer_trans G4.out.1 hb, G4.out.2.1.below hb G4.out.2.1.lt, G4.out.2.2.1.below hb G4.out.2.2.1.lt, G4.out.2.2.2.1.below hb G4.out.2.2.2.1.lt, G4.out.2.2.2.2.1.below hb G4.out.2.2.2.2.1.lt, G4.out.2.2.2.2.2.1.below hb G4.out.2.2.2.2.2.1.lt, G4.out.2.2.2.2.2.2.below hb G4.out.2.2.2.2.2.2.lt⟩
  clear hb G4
  obtain ⟨b2, hb2⟩ : ∃ b, b = w5.heap.size := ⟨_, rfl⟩
  have HL2 : Hid (b0 < b2) := Lib.hid (by rw [hb2]; exact G5.out.2.2.2.2.2.1.lt)
  have K5 : Hid (newer w (w5.alloc (.cells #[vi 30, vi 40, vi 10, vi 10] 38)) ∧ Whole (w5.alloc (.cells #[vi 30, vi 40, vi 10, vi 10] 38)) s 35 #[vi 0, vi 0, .slice none 0 0, .slice none 0 0, .slice none 0 0, .slice none 0 0] ∧ Whole (w5.alloc (.cells #[vi 30, vi 40, vi 10, vi 10] 38)) (s + 1) 4 #[.bool true, .bool false] ∧ Whole (w5.alloc (.cells #[vi 30, vi 40, vi 10, vi 10] 38)) (s + 1 + 1) 3 #[vi 50, vi 30, vi 30] ∧ Whole (w5.alloc (.cells #[vi 30, vi 40, vi 10, vi 10] 38)) (s + 1 + 1 + 1) 89 #[vi 0, vi 1, vi 45, vi 1, vi 2, vi 40] ∧ Whole (w5.alloc (.cells #[vi 30, vi 40, vi 10, vi 10] 38)) b0 38 #[vi 50, vi 60, vi 0, vi 0] ∧ Whole (w5.alloc (.cells #[vi 30, vi 40, vi 10, vi 10] 38)) b1 38 #[vi 20, vi 30, vi 40, vi 50] ∧ Whole (w5.alloc (.cells #[vi 30, vi 40, vi 10, vi 10] 38)) b2 38 #[vi 30, vi 40, vi 10, vi 10]) := Lib.hid ⟨newer_trans G5.out.1 (newer_allocH _ _), G5.out.2.1.alloc _, G5.out.2.2.1.alloc _, G5.out.2.2.2.1.alloc _, G5.out.2.2.2.2.1.alloc _, G5.out.2.2.2.2.2.1.alloc _, G5.out.2.2.2.2.2.2.alloc _, by rw [hb2]; exact Whole.made _ _ _⟩
  clear G5
  go_wp2_with fail
  rw [← hb2]
  clear hb2
  refine (span_any 60 60 _).mono ?_
  rintro e w6 ⟨rfl, hb⟩
  have G6 : Hid (newer w (w6) ∧ Whole (w6) s 35 #[vi 0, vi 0, .slice none 0 0, .slice none 0 0, .slice none 0 0, .slice none 0 0] ∧ Whole (w6) (s + 1) 4 #[.bool true, .bool false] ∧ Whole (w6) (s + 1 + 1) 3 #[vi 50, vi 30, vi 30] ∧ Whole (w6) (s + 1 + 1 + 1) 89 #[vi 0, vi 1, vi 45, vi 1, vi 2, vi 40] ∧ Whole (w6) b0 38 #[vi 50, vi 60, vi 0, vi 0] ∧ Whole (w6) b1 38 #[vi 20, vi 30, vi 40, vi 50] ∧ Whole (w6) b2 38 #[vi 30, vi 40, vi 10, vi 10]) := Lib.hid ⟨newer_trans K5.out.1 hb, K5.out.2.1.below hb K5.out.2.1.lt, K5.out.2.2.1.below hb K5.out.2.2.1.lt, K5.out.2.2.2.1.below hb K5.out.2.2.2.1.lt, K5.out.2.2.2.2.1.below hb K5.out.2.2.2.2.1.lt, K5.out.2.2.2.2.2.1.below hb K5.out.2.2.2.2.2.1.lt, K5.out.2.2.2.2.2.2.1.below hb K5.out.2.2.2.2.2.2.1.lt, K5.out.2.2.2.2.2.2.2.below hb K5.out.2.2.2.2.2.2.2.lt⟩
  clear hb K5
  go_wp2_with fail
  refine (span_any 60 60 _).mono ?_
  rintro e w7 ⟨rfl, hb⟩
  have G7 : Hid (newer w (w7) ∧ Whole (w7) s 35 #[vi 0, vi 0, .slice none 0 0, .slice none 0 0, .slice none 0 0, .slice none 0 0] ∧ Whole (w7) (s + 1) 4 #[.bool true, .bool false] ∧ Whole (w7) (s + 1 + 1) 3 #[vi 50, vi 30, vi 30] ∧ Whole (w7) (s + 1 + 1 + 1) 89 #[vi 0, vi 1, vi 45, vi 1, vi 2, vi 40] ∧ Whole (w7) b0 38 #[vi 50, vi 60, vi 0, vi 0] ∧ Whole (w7) b1 38 #[vi 20, vi 30, vi 40, vi 50] ∧ Whole (w7) b2 38 #[vi 30, vi 40, vi 10, vi 10]) := Lib.hid ⟨newer_trans G6.out.1 hb, G6.out.2.1.below hb G6.out.2.1.lt, G6.out.2.2.1.below hb G6.out.2.2.1.lt, G6.out.2.2.2.1.below hb G6.out.2.2.2.1.lt, G6.out.2.2.2.2.1.below hb G6.out.2.2.2.2.1.lt, G6.out.2.2.2.2.2.1.below hb G6.out.2.2.2.2.2.1.lt, G6.out.2.2.2.2.2.2.1.below hb G6.out.2.2.2.2.2.2.1.lt, G6.out.2.2.2.2.2.2.2.below hb G6.out.2.2.2.2.2.2.2.lt⟩
  clear hb G6
  obtain ⟨b3, hb3⟩ : ∃ b, b = w7.heap.size := ⟨_, rfl⟩
  have HL3 : Hid (b0 < b3) := Lib.hid (by rw [hb3]; exact G7.out.2.2.2.2.2.1.lt)
  have K7 : Hid (newer w (w7.alloc (.cells #[vi 60, vi 60, vi 60, vi 60] 38)) ∧ Whole (w7.alloc (.cells #[vi 60, vi 60, vi 60, vi 60] 38)) s 35 #[vi 0, vi 0, .slice none 0 0, .slice none 0 0, .slice none 0 0, .slice none 0 0] ∧ Whole (w7.alloc (.cells #[vi 60, vi 60, vi 60, vi 60] 38)) (s + 1) 4 #[.bool true, .bool false] ∧ Whole (w7.alloc (.cells #[vi 60, vi 60, vi 60, vi 60] 38)) (s + 1 + 1) 3 #[vi 50, vi 30, vi 30] ∧ Whole (w7.alloc (.cells #[vi 60, vi 60, vi 60, vi 60] 38)) (s + 1 + 1 + 1) 89 #[vi 0, vi 1, vi 45, vi 1, vi 2, vi 40] ∧ Whole (w7.alloc (.cells #[vi 60, vi 60, vi 60, vi 60] 38)) b0 38 #[vi 50, vi 60, vi 0, vi 0] ∧ Whole (w7.alloc (.cells #[vi 60, vi 60, vi 60, vi 60] 38)) b1 38 #[vi 20, vi 30, vi 40, vi 50] ∧ Whole (w7.alloc (.cells #[vi 60, vi 60, vi 60, vi 60] 38)) b2 38 #[vi 30, vi 40, vi 10, vi 10] ∧ Whole (w7.alloc (.cells #[vi 60, vi 60, vi 60, vi 60] 38)) b3 38 #[vi 60, vi 60, vi 60, vi 60]) := Lib.hid ⟨newer_trans G7.out.1 (newer_allocH _ _), G7.out.2.1.alloc _, G7.out.2.2.1.alloc _, G7.out.2.2.2.1.alloc _, G7.out.2.2.2.2.1.alloc _, G7.out.2.2.2.2.2.1.alloc _, G7.out.2.2.2.2.2.2.1.alloc _, G7.out.2.2.2.2.2.2.2.alloc _, by rw [hb3]; exact Whole.made _ _ _⟩
  obtain ⟨bw, hbw⟩ : ∃ bw, bw = (w7.alloc (.cells #[vi 60, vi 60, vi 60, vi 60] 38)).heap.size := ⟨_, rfl⟩
  have HZ : Hid (newer w ((w7.alloc (.cells #[vi 60, vi 60, vi 60, vi 60] 38)).alloc (.cells #[vi 40, vi 0, vi 1, vi 100, vi (-1), .slice (some ⟨b0, 0, none⟩) 2 2, vi 30, vi 0, vi 2, vi 0, vi 0, .slice (some ⟨b1, 0, none⟩) 2 2, vi 20, vi 0, vi 2, vi 500, vi (-1), .slice (some ⟨b2, 0, none⟩) 2 2, vi 10, vi 0, vi 2, vi 0, vi 1, .slice (some ⟨b3, 0, none⟩) 2 2] 87)) ∧ Whole ((w7.alloc (.cells #[vi 60, vi 60, vi 60, vi 60] 38)).alloc (.cells #[vi 40, vi 0, vi 1, vi 100, vi (-1), .slice (some ⟨b0, 0, none⟩) 2 2, vi 30, vi 0, vi 2, vi 0, vi 0, .slice (some ⟨b1, 0, none⟩) 2 2, vi 20, vi 0, vi 2, vi 500, vi (-1), .slice (some ⟨b2, 0, none⟩) 2 2, vi 10, vi 0, vi 2, vi 0, vi 1, .slice (some ⟨b3, 0, none⟩) 2 2] 87)) s 35 #[vi 0, vi 0, .slice none 0 0, .slice none 0 0, .slice none 0 0, .slice none 0 0] ∧ Whole ((w7.alloc (.cells #[vi 60, vi 60, vi 60, vi 60] 38)).alloc (.cells #[vi 40, vi 0, vi 1, vi 100, vi (-1), .slice (some ⟨b0, 0, none⟩) 2 2, vi 30, vi 0, vi 2, vi 0, vi 0, .slice (some ⟨b1, 0, none⟩) 2 2, vi 20, vi 0, vi 2, vi 500, vi (-1), .slice (some ⟨b2, 0, none⟩) 2 2, vi 10, vi 0, vi 2, vi 0, vi 1, .slice (some ⟨b3, 0, none⟩) 2 2] 87)) (s + 1) 4 #[.bool true, .bool false] ∧ Whole ((w7.alloc (.cells #[vi 60, vi 60, vi 60, vi 60] 38)).alloc (.cells #[vi 40, vi 0, vi 1, vi 100, vi (-1), .slice (some ⟨b0, 0, none⟩) 2 2, vi 30, vi 0, vi 2, vi 0, vi 0, .slice (some ⟨b1, 0, none⟩) 2 2, vi 20, vi 0, vi 2, vi 500, vi (-1), .slice (some ⟨b2, 0, none⟩) 2 2, vi 10, vi 0, vi 2, vi 0, vi 1, .slice (some ⟨b3, 0, none⟩) 2 2] 87)) (s + 1 + 1) 3 #[vi 50, vi 30, vi 30] ∧ Whole ((w7.alloc (.cells #[vi 60, vi 60, vi 60, vi 60] 38)).alloc (.cells #[vi 40, vi 0, vi 1, vi 100, vi (-1), .slice (some ⟨b0, 0, none⟩) 2 2, vi 30, vi 0, vi 2, vi 0, vi 0, .slice (some ⟨b1, 0, none⟩) 2 2, vi 20, vi 0, vi 2, vi 500, vi (-1), .slice (some ⟨b2, 0, none⟩) 2 2, vi 10, vi 0, vi 2, vi 0, vi 1, .slice (some ⟨b3, 0, none⟩) 2 2] 87)) (s + 1 + 1 + 1) 89 #[vi 0, vi 1, vi 45, vi 1, vi 2, vi 40] ∧ Whole ((w7.alloc (.cells #[vi 60, vi 60, vi 60, vi 60] 38)).alloc (.cells #[vi 40, vi 0, vi 1, vi 100, vi (-1), .slice (some ⟨b0, 0, none⟩) 2 2, vi 30, vi 0, vi 2, vi 0, vi 0, .slice (some ⟨b1, 0, none⟩) 2 2, vi 20, vi 0, vi 2, vi 500, vi (-1), .slice (some ⟨b2, 0, none⟩) 2 2, vi 10, vi 0, vi 2, vi 0, vi 1, .slice (some ⟨b3, 0, none⟩) 2 2] 87)) b0 38 #[vi 50, vi 60, vi 0, vi 0] ∧ Whole ((w7.alloc (.cells #[vi 60, vi 60, vi 60, vi 60] 38)).alloc (.cells #[vi 40, vi 0, vi 1, vi 100, vi (-1), .slice (some ⟨b0, 0, none⟩) 2 2, vi 30, vi 0, vi 2, vi 0, vi 0, .slice (some ⟨b1, 0, none⟩) 2 2, vi 20, vi 0, vi 2, vi 500, vi (-1), .slice (some ⟨b2, 0, none⟩) 2 2, vi 10, vi 0, vi 2, vi 0, vi 1, .slice (some ⟨b3, 0, none⟩) 2 2] 87)) b1 38 #[vi 20, vi 30, vi 40, vi 50] ∧ Whole ((w7.alloc (.cells #[vi 60, vi 60, vi 60, vi 60] 38)).alloc (.cells #[vi 40, vi 0, vi 1, vi 100, vi (-1), .slice (some ⟨b0, 0, none⟩) 2 2, vi 30, vi 0, vi 2, vi 0, vi 0, .slice (some ⟨b1, 0, none⟩) 2 2, vi 20, vi 0, vi 2, vi 500, vi (-1), .slice (some ⟨b2, 0, none⟩) 2 2, vi 10, vi 0, vi 2, vi 0, vi 1, .slice (some ⟨b3, 0, none⟩) 2 2] 87)) b2 38 #[vi 30, vi 40, vi 10, vi 10] ∧ Whole ((w7.alloc (.cells #[vi 60, vi 60, vi 60, vi 60] 38)).alloc (.cells #[vi 40, vi 0, vi 1, vi 100, vi (-1), .slice (some ⟨b0, 0, none⟩) 2 2, vi 30, vi 0, vi 2, vi 0, vi 0, .slice (some ⟨b1, 0, none⟩) 2 2, vi 20, vi 0, vi 2, vi 500, vi (-1), .slice (some ⟨b2, 0, none⟩) 2 2, vi 10, vi 0, vi 2, vi 0, vi 1, .slice (some ⟨b3, 0, none⟩) 2 2] 87)) b3 38 #[vi 60, vi 60, vi 60, vi 60] ∧ Whole ((w7.alloc (.cells #[vi 60, vi 60, vi 60, vi 60] 38)).alloc (.cells #[vi 40, vi 0, vi 1, vi 100, vi (-1), .slice (some ⟨b0, 0, none⟩) 2 2, vi 30, vi 0, vi 2, vi 0, vi 0, .slice (some ⟨b1, 0, none⟩) 2 2, vi 20, vi 0, vi 2, vi 500, vi (-1), .slice (some ⟨b2, 0, none⟩) 2 2, vi 10, vi 0, vi 2, vi 0, vi 1, .slice (some ⟨b3, 0, none⟩) 2 2] 87)) bw 87 #[vi 40, vi 0, vi 1, vi 100, vi (-1), .slice (some ⟨b0, 0, none⟩) 2 2, vi 30, vi 0, vi 2, vi 0, vi 0, .slice (some ⟨b1, 0, none⟩) 2 2, vi 20, vi 0, vi 2, vi 500, vi (-1), .slice (some ⟨b2, 0, none⟩) 2 2, vi 10, vi 0, vi 2, vi 0, vi 1, .slice (some ⟨b3, 0, none⟩) 2 2]) := Lib.hid ⟨newer_trans K7.out.1 (newer_allocH _ _), K7.out.2.1.alloc _, K7.out.2.2.1.alloc _, K7.out.2.2.2.1.alloc _, K7.out.2.2.2.2.1.alloc _, K7.out.2.2.2.2.2.1.alloc _, K7.out.2.2.2.2.2.2.1.alloc _, K7.out.2.2.2.2.2.2.2.1.alloc _, K7.out.2.2.2.2.2.2.2.2.alloc _, by rw [hbw]; exact Whole.made _ _ _⟩
  have HBW : Hid (s ≤ bw) := Lib.hid (by rw [hbw, HSE.out]; exact K7.out.1.size)
  have hbe : w7.heap.size + 1 = bw := by rw [hbw]; simp
  obtain ⟨wz, hwz⟩ : ∃ wz, wz = (w7.alloc (.cells #[vi 60, vi 60, vi 60, vi 60] 38)).alloc (.cells #[vi 40, vi 0, vi 1, vi 100, vi (-1), .slice (some ⟨b0, 0, none⟩) 2 2, vi 30, vi 0, vi 2, vi 0, vi 0, .slice (some ⟨b1, 0, none⟩) 2 2, vi 20, vi 0, vi 2, vi 500, vi (-1), .slice (some ⟨b2, 0, none⟩) 2 2, vi 10, vi 0, vi 2, vi 0, vi 1, .slice (some ⟨b3, 0, none⟩) 2 2] 87) := ⟨_, rfl⟩
  rw [← hwz] at HZ
  have z0 := HZ.out.2.1.at 0 rfl
  have z1 := HZ.out.2.1.at 1 rfl
  have z2 := HZ.out.2.1.at 2 rfl
  have z3 := HZ.out.2.1.at 3 rfl
  have z4 := HZ.out.2.1.at 4 rfl
  have z5 := HZ.out.2.1.at 5 rfl
  have f0 := HZ.out.2.1.free 0
  have f1 := HZ.out.2.1.free 1
  have f2 := HZ.out.2.1.free 2
  have f3 := HZ.out.2.1.free 3
  have f4 := HZ.out.2.1.free 4
  have f5 := HZ.out.2.1.free 5
  obtain ⟨i87, hi0, hz0, hz1, hz2⟩ := info_parts Try.info87
  go_wp2_with fail
  rw [← hb3]
  refine wp_buildSlice 32 87 4 _ rfl #[vi 40, vi 0, vi 1, vi 100, vi (-1), .slice (some ⟨b0, 0, none⟩) 2 2, vi 30, vi 0, vi 2, vi 0, vi 0, .slice (some ⟨b1, 0, none⟩) 2 2, vi 20, vi 0, vi 2, vi 500, vi (-1), .slice (some ⟨b2, 0, none⟩) 2 2, vi 10, vi 0, vi 2, vi 0, vi 1, .slice (some ⟨b3, 0, none⟩) 2 2] i87 (.agg #[vi 0, vi 0, vi 0, vi 0, vi 0, .slice none 0 0]) Try.underlying32 hi0 hz0 (by rw [hz1]; decide) (by rw [hz1]; decide) (by rw [hz1]; simp only [List.map_toArray, List.map_cons, List.map_nil]; refine fill24 _ ?_ (vi 40) (vi 0) (vi 1) (vi 100) (vi (-1)) (.slice (some ⟨b0, 0, none⟩) 2 2) (vi 30) (vi 0) (vi 2) (vi 0) (vi 0) (.slice (some ⟨b1, 0, none⟩) 2 2) (vi 20) (vi 0) (vi 2) (vi 500) (vi (-1)) (.slice (some ⟨b2, 0, none⟩) 2 2) (vi 10) (vi 0) (vi 2) (vi 0) (vi 1) (.slice (some ⟨b3, 0, none⟩) 2 2); simp) ?_
  rw [← hwz]
  have hbv : (w7.alloc (.cells #[vi 60, vi 60, vi 60, vi 60] 38)).heap.size = bw := hbw.symm
  rw [hbv]
  clear hbe hwz hbv hi0 hz0 hz1 hz2 hb3 G7 K7 hbw
  have HNE : Hid (s + 1 ≠ s ∧ s + 1 + 1 ≠ s ∧ s + 1 + 1 + 1 ≠ s ∧ b0 ≠ s ∧ b1 ≠ s ∧ b2 ≠ s ∧ b3 ≠ s ∧ bw ≠ s) := Lib.hid (by
    have ne : ∀ {b : Nat} {t : TypeId} {cs : Array Value}, Whole wz b t cs → t ≠ 35 → b ≠ s := fun h ht e => by
      have h1 := HZ.out.2.1
      unfold Whole at h h1
      rw [e, h1] at h
      injection h with h
      injection h with _ h
      exact ht h.symm
    exact ⟨by omega, by omega, by omega, ne HZ.out.2.2.2.2.2.1 (by decide), ne HZ.out.2.2.2.2.2.2.1 (by decide), ne HZ.out.2.2.2.2.2.2.2.1 (by decide), ne HZ.out.2.2.2.2.2.2.2.2.1 (by decide), ne HZ.out.2.2.2.2.2.2.2.2.2 (by decide)⟩)
  go_wp2_with fail
  have hw := ((((((HZ.out.2.1).set 0 (vi 3)).set 1 (vi 2)).set 2 (.slice (some ⟨bw, 0, none⟩) 4 4)).set 3 (.slice (some ⟨s + 1 + 1 + 1, 0, none⟩) 2 2)).set 4 (.slice (some ⟨s + 1, 0, none⟩) 2 2)).set 5 (.slice (some ⟨s + 1 + 1, 0, none⟩) 3 3)
  have hn : newer w (((((((wz).setCell ⟨s, 0, none⟩ (vi 3)).setCell ⟨s, 1, none⟩ (vi 2)).setCell ⟨s, 2, none⟩ (.slice (some ⟨bw, 0, none⟩) 4 4)).setCell ⟨s, 3, none⟩ (.slice (some ⟨s + 1 + 1 + 1, 0, none⟩) 2 2)).setCell ⟨s, 4, none⟩ (.slice (some ⟨s + 1, 0, none⟩) 2 2)).setCell ⟨s, 5, none⟩ (.slice (some ⟨s + 1 + 1, 0, none⟩) 3 3)) := ((((((HZ.out.1).setCell (p := ⟨s, 0, none⟩) (by rw [← HSE.out]; exact Nat.le_refl _) (vi 3)).setCell (p := ⟨s, 1, none⟩) (by rw [← HSE.out]; exact Nat.le_refl _) (vi 2)).setCell (p := ⟨s, 2, none⟩) (by rw [← HSE.out]; exact Nat.le_refl _) (.slice (some ⟨bw, 0, none⟩) 4 4)).setCell (p := ⟨s, 3, none⟩) (by rw [← HSE.out]; exact Nat.le_refl _) (.slice (some ⟨s + 1 + 1 + 1, 0, none⟩) 2 2)).setCell (p := ⟨s, 4, none⟩) (by rw [← HSE.out]; exact Nat.le_refl _) (.slice (some ⟨s + 1, 0, none⟩) 2 2)).setCell (p := ⟨s, 5, none⟩) (by rw [← HSE.out]; exact Nat.le_refl _) (.slice (some ⟨s + 1 + 1, 0, none⟩) 3 3)
  have hfar : ∀ {b : Nat} {t : TypeId} {cs : Array Value}, b ≠ s ∧ Whole wz b t cs → Whole (((((((wz).setCell ⟨s, 0, none⟩ (vi 3)).setCell ⟨s, 1, none⟩ (vi 2)).setCell ⟨s, 2, none⟩ (.slice (some ⟨bw, 0, none⟩) 4 4)).setCell ⟨s, 3, none⟩ (.slice (some ⟨s + 1 + 1 + 1, 0, none⟩) 2 2)).setCell ⟨s, 4, none⟩ (.slice (some ⟨s + 1, 0, none⟩) 2 2)).setCell ⟨s, 5, none⟩ (.slice (some ⟨s + 1 + 1, 0, none⟩) 3 3)) b t cs := fun h => ((((((h.2.far (p := ⟨s, 0, none⟩) h.1 _).far (p := ⟨s, 1, none⟩) h.1 _).far (p := ⟨s, 2, none⟩) h.1 _).far (p := ⟨s, 3, none⟩) h.1 _).far (p := ⟨s, 4, none⟩) h.1 _).far (p := ⟨s, 5, none⟩) h.1 _)
  have k0 := hw.at 0 (v := vi 3) rfl
  have k1 := hw.at 1 (v := vi 2) rfl
  have k2 := hw.at 2 (v := .slice (some ⟨bw, 0, none⟩) 4 4) rfl
  have k3 := hw.at 3 (v := .slice (some ⟨s + 1 + 1 + 1, 0, none⟩) 2 2) rfl
  have k4 := hw.at 4 (v := .slice (some ⟨s + 1, 0, none⟩) 2 2) rfl
  have k5 := hw.at 5 (v := .slice (some ⟨s + 1 + 1, 0, none⟩) 3 3) rfl
  have HEND : Hid (RM 0 40 50 60 w.heap.size bw (s + 1 + 1 + 1) (s + 1) (s + 1 + 1) b0 b1 b2 b3 (((((((wz).setCell ⟨s, 0, none⟩ (vi 3)).setCell ⟨s, 1, none⟩ (vi 2)).setCell ⟨s, 2, none⟩ (.slice (some ⟨bw, 0, none⟩) 4 4)).setCell ⟨s, 3, none⟩ (.slice (some ⟨s + 1 + 1 + 1, 0, none⟩) 2 2)).setCell ⟨s, 4, none⟩ (.slice (some ⟨s + 1, 0, none⟩) 2 2)).setCell ⟨s, 5, none⟩ (.slice (some ⟨s + 1 + 1, 0, none⟩) 3 3)) ∧ newer w (((((((wz).setCell ⟨s, 0, none⟩ (vi 3)).setCell ⟨s, 1, none⟩ (vi 2)).setCell ⟨s, 2, none⟩ (.slice (some ⟨bw, 0, none⟩) 4 4)).setCell ⟨s, 3, none⟩ (.slice (some ⟨s + 1 + 1 + 1, 0, none⟩) 2 2)).setCell ⟨s, 4, none⟩ (.slice (some ⟨s + 1, 0, none⟩) 2 2)).setCell ⟨s, 5, none⟩ (.slice (some ⟨s + 1 + 1, 0, none⟩) 3 3))) := Lib.hid (by
    refine ⟨⟨?_, ?_, ?_, ?_, ?_, ?_, ?_, ?_, ?_, ?_⟩, hn⟩
    · exact hfar ⟨HNE.out.2.2.2.2.2.2.2, HZ.out.2.2.2.2.2.2.2.2.2⟩
    · exact hfar ⟨HNE.out.2.2.2.1, HZ.out.2.2.2.2.2.1⟩
    · exact hfar ⟨HNE.out.2.2.2.2.1, HZ.out.2.2.2.2.2.2.1⟩
    · exact hfar ⟨HNE.out.2.2.2.2.2.1, HZ.out.2.2.2.2.2.2.2.1⟩
    · exact hfar ⟨HNE.out.2.2.2.2.2.2.1, HZ.out.2.2.2.2.2.2.2.2.1⟩
    · exact hfar ⟨HNE.out.2.2.1, HZ.out.2.2.2.2.1⟩
    · exact hfar ⟨HNE.out.1, HZ.out.2.2.1⟩
    · exact hfar ⟨HNE.out.2.1, HZ.out.2.2.2.1⟩
    · have h1 := HBW.out
      have h2 := HB0.out
      have h3 := HSE.out
      omega
    · have h1 := HL1.out
      have h2 := HL2.out
      have h3 := HL3.out
      omega)
  clear hw hn hfar z0 z1 z2 z3 z4 z5 f0 f1 f2 f3 f4 f5
  obtain ⟨hrm, hn⟩ := HEND.out
  exact bodyPost_ret (v := .agg #[vi 3, vi 2, .slice (some ⟨bw, 0, none⟩) 4 4, .slice (some ⟨s + 1 + 1 + 1, 0, none⟩) 2 2, .slice (some ⟨s + 1, 0, none⟩) 2 2, .slice (some ⟨s + 1 + 1, 0, none⟩) 3 3]) (by simp [results, Try.results45, go_sem, k0, k1, k2, k3, k4, k5]) rfl ⟨⟨_, _, _, _, _, _, _, _, rfl, hrm⟩, hn⟩

theorem names_adds : addsE ridgeP [0, 1, 1, -1] 1 2 = 0 ∧ togN false 1 2 ridgeP.works [0, 1, 1, -1] = 45 ∧ togN true 1 2 ridgeP.works [0, 1, 1, -1] = 55 := by decide +kernel
theorem names_bad : addsE ridgeP [2, -1, -1, -1] 0 0 = 2 ∧ addsE ridgeP [-1, -1, -1, -1] 2 0 = 2 ∧ checkN ridgeP [-1] = 2 := by decide +kernel
theorem names_suff : suffB ridgeP [-1, 0, 1, -1] = true ∧ suffB ridgeP [-1, 1, 1, -1] = true ∧ suffB ridgeP [-1, 0, 0, -1] = false ∧ suffB ridgeP [-1, 1, 1, 2] = false := by decide +kernel
theorem names_bound : boundB ridgeP [0, 750] 31 = false ∧ boundB ridgeP [0, 751] 31 = false ∧ boundB ridgeP [0] 0 = false ∧ boundB ridgeP [-1, 0] 0 = false ∧ boundB ridgeP [0, 0] 0 = true := by decide +kernel
theorem names_court : courtE ridgeP = 0 ∧ courtL ridgeP = [] := by decide +kernel
theorem names_court1 : courtE (rP 1 40 50 60) = 0 ∧ courtL (rP 1 40 50 60) = [1] := by decide +kernel
theorem names_best1 : bestE (rP 1 40 50 60) = 9 := by decide +kernel
theorem names_best2 : bestE (rP 1 40 10001 10001) = 1 := by decide +kernel
theorem names_due : courtE (rP 0 200 50 60) = 7 ∧ bestE (rP 0 200 50 60) = 9 := by decide +kernel
end Go.Proofs.Ytpnpnfjhjjdmgaa
