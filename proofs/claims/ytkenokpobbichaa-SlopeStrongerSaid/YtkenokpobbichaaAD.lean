/- A surface, laid anew for the program. -/
import Derived.Test.YtkenokpobbichaaAC
namespace Go.Proofs.Ytkenokpobbichaa
open Go.RowKit Go.Shelf Go.Deep

/-- A list in memory, from a block on. -/
def vLis (B : Nat) (l : List Int) (v : Value) (W : World) : Prop := ∃ A c, v = .slice A l.length c ∧ Row intL 1 W W.heap.size A l ∧ ∀ a, A = some a → B ≤ a.block
theorem vLis_st {B : Nat} {l : List Int} : ∀ v W W', vLis B l v W → newer W W' → vLis B l v W' := fun _ _ _ ⟨A, c, h1, h2, h3⟩ hb => ⟨A, c, h1, (h2.below hb).more hb.size, h3⟩
/-- A surface in memory, from a block on. -/
def vSur (B : Nat) (frm : Int) (l : List Int) (v : Value) (W : World) : Prop := ∃ A c, v = .agg #[vi frm, .slice A l.length c] ∧ Row intL 1 W W.heap.size A l ∧ ∀ a, A = some a → B ≤ a.block
theorem vSur_st {B : Nat} {frm : Int} {l : List Int} : ∀ v W W', vSur B frm l v W → newer W W' → vSur B frm l v W' := fun _ _ _ ⟨A, c, h1, h2, h3⟩ hb => ⟨A, c, h1, (h2.below hb).more hb.size, h3⟩
theorem row_far {W : World} {B : Nat} {A : Option Addr} {l : List Int} {b i : Nat} (h : Row intL 1 W B A l) (hne : ∀ a, A = some a → l ≠ [] → a.block ≠ b) (u : Value) : Row intL 1 (W.setCell ⟨b, i, none⟩ u) B A l := by
  intro hl
  obtain ⟨g, off, e, hb, hc⟩ := h hl
  refine ⟨g, off, e, hb, fun k x hk j v hj => ?_⟩
  have h1 := hne _ e hl
  have e2 : (W.setCell ⟨b, i, none⟩ u).heap[g]? = W.heap[g]? := Below.heap_setCell W ⟨b, i, none⟩ u g h1
  exact (cell_of_same e2 _).trans (hc k x hk j v hj)
set_option maxRecDepth 100000 in
set_option maxHeartbeats 2000000 in
theorem lawSurface (u : Su) (w : World) (hu : SuOk u w) (hul : u.beds.length ≤ 1000) : Calls Try.prog 20 #[suV u] w fun e w' => ∃ u2 : Su, e = .returned (suV u2) ∧ u2.frm = u.frm ∧ u2.beds = u.beds ∧ SuOk u2 w' ∧ newer w w' := by
  have e1 := newer_allocH w (.cells (suC u) 27)
  have e2 := newer_allocH (w.alloc (.cells (suC u) 27)) (.cells #[vi 0, .slice none 0 0] 39)
  have a1 := Whole.made w 27 (suC u)
  have a2 := Whole.made (w.alloc (.cells (suC u) 27)) 39 #[vi 0, .slice none 0 0]
  rw [World.size_alloc] at a2
  have H0 := Lib.hid (And.intro (newer_trans e1 e2) (And.intro (a1.below e2 a1.lt) a2))
  have HUW := Lib.hid (hu.next (newer_trans e1 e2))
  clear e1 e2 a1 a2 hu
  go_enter Try.func20, Try.ntmps20
  go_upto_region 1 with fail
  refine genQ (fun X => newer w X ∧ Whole X w.heap.size 27 (suC u) ∧ Whole X (w.heap.size + 1) 39 #[vi 0, .slice none 0 0] ∧ SuOk u X) ⟨H0.out.1, H0.out.2.1, H0.out.2.2, HUW.out⟩ ?_
  clear H0 HUW
  rintro w2 ⟨p1, p2, p3, p4⟩
  have u0 := p2.at 0 (v := vi u.frm) rfl
  have u1 := p2.at 1 (v := .slice u.a u.beds.length u.c) rfl
  have HU := Lib.hid (show Row intL 1 w2 w2.heap.size u.a u.beds from p4)
  have H2 := Lib.hid (And.intro p1 p3)
  clear p1 p2 p3 p4
  refine wp_words (by kernel_rfl) (region_told 6 (by kernel_rfl) (by kernel_rfl) (fun W => Below w2.heap.size w2 W) newer (pickD [vIs (.pointer (some ⟨w.heap.size, 0, none⟩)), vIs (vi u.frm), vIs (.pointer (some ⟨w.heap.size, 1, none⟩)), vIs (.slice u.a u.beds.length u.c), vLis w2.heap.size u.beds, vSur w2.heap.size u.frm u.beds]) (fun h k => newer_trans h k) (pickD_stable _ ⟨vIs_st, vIs_st, vIs_st, vIs_st, vLis_st, vSur_st, trivial⟩) (Below.refl _ w2).drew (Below.refl _ _) ?_ ?_)
  · refine ⟨?_, ?_, ?_, ?_, ?_, ?_, trivial⟩
    · intro a W hG hR hO hp
      have h1 := hO.slot 1 (by kernel_rfl)
      refine wp_yields (v := .pointer (some ⟨w.heap.size, 0, none⟩)) ?_ ⟨_, rfl, rfl, Below.refl _ _, hG⟩
      simp [slotOf] at h1
      simp [execOp, go_sem, h1]
    · intro a W hG hR hO hp
      have h3 : slotOf a 3 = .pointer (some ⟨w.heap.size, 0, none⟩) := hp.1
      have c0 := keep_cell u0 hG
      refine wp_yields (v := vi u.frm) ?_ ⟨_, rfl, rfl, Below.refl _ _, hG⟩
      simp [slotOf] at h3
      simp [execOp, go_sem, h3, c0]
    · intro a W hG hR hO hp
      have h1 := hO.slot 1 (by kernel_rfl)
      refine wp_yields (v := .pointer (some ⟨w.heap.size, 1, none⟩)) ?_ ⟨_, rfl, rfl, Below.refl _ _, hG⟩
      simp [slotOf] at h1
      simp [execOp, go_sem, h1]
    · intro a W hG hR hO hp
      have h5 : slotOf a 5 = .pointer (some ⟨w.heap.size, 1, none⟩) := hp.1
      have c0 := keep_cell u1 hG
      refine wp_yields (v := .slice u.a u.beds.length u.c) ?_ ⟨_, rfl, rfl, Below.refl _ _, hG⟩
      simp [slotOf] at h5
      simp [execOp, go_sem, h5, c0]
    · intro a W hG hR hO hp
      have h6 : slotOf a 6 = .slice u.a u.beds.length u.c := hp.1
      refine wp_enters (f := 29) (args := #[.slice u.a u.beds.length u.c]) ?_ ((lawList u.beds u.a u.c W hul ((HU.out.below hG).more hG.size)).mono ?_)
      · simp [slotOf] at h6
        simp [go_sem, h6]
      · rintro e w' ⟨A, c, rfl, _, hr, hb, hge⟩
        exact ⟨_, rfl, _, rfl, ⟨A, c, rfl, hr, fun a e => Nat.le_trans hG.size (hge a e)⟩, hb, below_next hG hb⟩
    · intro a W hG hR hO hp
      have h4 : slotOf a 4 = vi u.frm := hp.1
      have h7 := hp.2.1
      obtain ⟨A, c, h7, hrow, hge⟩ := h7
      refine wp_yields (v := .agg #[vi u.frm, .slice A u.beds.length c]) ?_ ⟨_, rfl, ⟨A, c, rfl, hrow, hge⟩, Below.refl _ _, hG⟩
      simp [slotOf] at h4 h7
      simp [execOp, go_sem, h4, h7]
  · intro wz hG hR
    rintro _ rfl _ rfl _ rfl _ rfl _ - _ ⟨A, c, rfl, hrow, hge⟩
    change wpList _ _ _ _ _ _
    simp only [Act.put, List.setIfInBounds_toArray, List.set_cons_zero, List.set_cons_succ, List.drop_succ_cons, List.drop_zero]
    have hr := H2.out.2.below hG H2.out.2.lt
    have r0 := hr.at 0 (v := vi 0) rfl
    have r1 := hr.at 1 (v := .slice none 0 0) rfl
    have f0 := hr.free 0
    have f1 := hr.free 1
    have hset := (hr.set 0 (vi u.frm)).set 1 (.slice A u.beds.length c)
    have z0 := hset.at 0 (v := vi u.frm) rfl
    have z1 := hset.at 1 (v := .slice A u.beds.length c) rfl
    have HF : Hid (Row intL 1 ((wz.setCell ⟨w.heap.size + 1, 0, none⟩ (vi u.frm)).setCell ⟨w.heap.size + 1, 1, none⟩ (.slice A u.beds.length c)) ((wz.setCell ⟨w.heap.size + 1, 0, none⟩ (vi u.frm)).setCell ⟨w.heap.size + 1, 1, none⟩ (.slice A u.beds.length c)).heap.size A u.beds ∧ newer w ((wz.setCell ⟨w.heap.size + 1, 0, none⟩ (vi u.frm)).setCell ⟨w.heap.size + 1, 1, none⟩ (.slice A u.beds.length c))) := Lib.hid (by
      have hl := H2.out.2.lt
      have hne : ∀ a, A = some a → u.beds ≠ [] → a.block ≠ w.heap.size + 1 := fun a e _ => by have := hge a e; omega
      refine ⟨?_, ((newer_trans H2.out.1 hG).setCell (p := ⟨w.heap.size + 1, 0, none⟩) (Nat.le_succ _) _).setCell (p := ⟨w.heap.size + 1, 1, none⟩) (Nat.le_succ _) _⟩
      exact (row_far (row_far hrow hne _) hne _).more (by simp))
    clear hr hset hrow hge hG hR u0 u1
    go_wp2_with fail
    exact bodyPost_ret (v := .agg #[vi u.frm, .slice A u.beds.length c]) (by simp [results, Try.results20, go_sem, z0, z1]) rfl ⟨⟨u.frm, u.beds, A, c⟩, rfl, rfl, rfl, HF.out.1, HF.out.2⟩

end Go.Proofs.Ytkenokpobbichaa
