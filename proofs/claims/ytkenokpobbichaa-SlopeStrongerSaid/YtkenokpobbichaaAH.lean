/- The span of a surface, by the reference. -/
import Derived.Test.YtkenokpobbichaaAG
namespace Go.Proofs.Ytkenokpobbichaa
open Go.RowKit Go.Shelf Go.Deep

theorem hK_congr {l : List Bd} {tr tr' : Nat → Rl} : ∀ k, (∀ i, i < k → tr i = tr' i) → hK l tr k = hK l tr' k
  | 0, _ => rfl
  | k + 1, h => by simp only [hK]; rw [hK_congr k (fun i hi => h i (by omega)), h k (by omega)]
/-- An end of a span, by the reference. -/
def refE (bs : List Bd) (hi : Bool) : Int := if dK bs bs.length < 1 then -1 else facE bs hi
theorem refE_is (bs : List Bd) (hi : Bool) : refF (hK bs (fun i => (bs.map (endR hi)).getD i ⟨0, 0, 0⟩) bs.length) (dK bs bs.length) = refE bs hi := by
  unfold refF refE facE
  rw [hK_congr (tr := fun i => (bs.map (endR hi)).getD i ⟨0, 0, 0⟩) (tr' := fun i => endR hi (bs.getD i zeroBd)) bs.length (fun i hi2 => by
    obtain ⟨b, hb⟩ := get_of_lt hi2
    simp [List.getD, hb])]
def vEnd (tl : List Rl) (v : Value) (W : World) : Prop := ∃ A c, v = .slice A tl.length c ∧ Row rlL 3 W W.heap.size A tl
theorem vEnd_st {tl : List Rl} : ∀ v W W', vEnd tl v W → newer W W' → vEnd tl v W' := fun _ _ _ ⟨A, c, h1, h2⟩ hb => ⟨A, c, h1, (h2.below hb).more hb.size⟩
set_option maxRecDepth 100000 in
set_option maxHeartbeats 2000000 in
theorem refSpan_any (s : Sm) (u : Su) (k0 : Nat) (l : List Nat) (w : World) (hok : SmOk s w) (hs : SdOk s.sd) (hu : SuOk u w) (hf : u.frm = k0) (hl : u.beds = l.map fun x : Nat => (x : Int)) (hsf : SurfB s.sd.n s.cs.length s.sd.K k0 l) :
    Calls Try.prog 22 #[smV s, suV u] w fun e w' => e = .returned (rgV ⟨refE (bedsL s.sd.cols k0 l) false, refE (bedsL s.sd.cols k0 l) true⟩) ∧ newer w w' := by
  have e1 := newer_allocH w (.cells (smC s) 24)
  have e2 := newer_allocH (w.alloc (.cells (smC s) 24)) (.cells (suC u) 27)
  have e3 := newer_allocH ((w.alloc (.cells (smC s) 24)).alloc (.cells (suC u) 27)) (.cells #[vi 0, vi 0] 42)
  have a1 := Whole.made w 24 (smC s)
  have a2 := Whole.made (w.alloc (.cells (smC s) 24)) 27 (suC u)
  have a3 := Whole.made ((w.alloc (.cells (smC s) 24)).alloc (.cells (suC u) 27)) 42 #[vi 0, vi 0]
  rw [World.size_alloc] at a2
  rw [World.size_alloc, World.size_alloc] at a3
  have H0 := Lib.hid (And.intro (newer_trans (newer_trans e1 e2) e3) (And.intro ((a1.below e2 a1.lt).below e3 (by simp; omega)) (And.intro (a2.below e3 a2.lt) a3)))
  clear e1 e2 e3 a1 a2 a3
  obtain ⟨bs, hbs⟩ : ∃ bs, bs = bedsL s.sd.cols k0 l := ⟨_, rfl⟩
  have hbl : bs.length = l.length := by rw [hbs]; exact bedsL_len _ _ _
  have HBO := bedsL_ok hs hsf.2.2 hsf.2.1
  rw [← hbs] at HBO ⊢
  have hen : ∀ hi (W : World), newer w W → Calls Try.prog 45 #[smV s, suV u, .bool hi] W fun e w' => ∃ A c, e = .returned (.slice A (bs.map (endR hi)).length c) ∧ Row rlL 3 w' w'.heap.size A (bs.map (endR hi)) ∧ newer W w' := fun hi W hW => by
    refine (ends_any s u k0 l hi W (hok.next hW) hs (hu.next hW) hf hl hsf).mono ?_
    rintro e w' ⟨A, c, h1, h2, h3⟩
    rw [← hbs] at h2
    exact ⟨A, c, by rw [h1, List.length_map, hbl], row_of_own (enc := rlL) (size := 3) (by omega) (fun _ => rfl) h2, h3⟩
  have hfa : ∀ hi (W : World) A c, newer w W → Row rlL 3 W W.heap.size A (bs.map (endR hi)) → Calls Try.prog 48 #[smV s, suV u, .slice A (bs.map (endR hi)).length c] W fun e w' => e = .returned (vi (refE bs hi)) ∧ newer W w' := fun hi W A c hW hr => by
    have h := refFactor_any s u k0 l (bs.map (endR hi)) A c W (hok.next hW) hs (hu.next hW) hf hl hsf hr (by rw [List.length_map, hbl]) (fun y hy => by
      obtain ⟨b, hb, rfl⟩ := List.mem_map.1 hy
      exact end_rlB (HBO b hb) hi)
    rw [← hbs, ← hbl, refE_is] at h
    exact h
  obtain ⟨g0, hg0⟩ : ∃ g0, g0 = refE bs false := ⟨_, rfl⟩
  obtain ⟨g1, hg1⟩ : ∃ g1, g1 = refE bs true := ⟨_, rfl⟩
  have HF0' := Lib.hid (hfa false)
  have HF1' := Lib.hid (hfa true)
  rw [← hg0] at HF0' ⊢
  rw [← hg1] at HF1' ⊢
  have HE0' := Lib.hid (hen false)
  have HE1' := Lib.hid (hen true)
  clear hfa hen hg0 hg1 HBO hbl hbs hok hs hu hf hl hsf
  go_enter Try.func22, Try.ntmps22
  go_upto_region 1 with fail
  refine genQ (fun X => newer w X ∧ Whole X w.heap.size 24 (smC s) ∧ Whole X (w.heap.size + 1) 27 (suC u) ∧ Whole X (w.heap.size + 1 + 1) 42 #[vi 0, vi 0]) H0.out ?_
  clear H0
  rintro w3 ⟨p1, p2, p3, p4⟩
  have HE0 := Lib.hid (fun W (hW : newer w3 W) => HE0'.out W (newer_trans p1 hW))
  have HE1 := Lib.hid (fun W (hW : newer w3 W) => HE1'.out W (newer_trans p1 hW))
  have HF0 := Lib.hid (fun W A c (hW : newer w3 W) => HF0'.out W A c (newer_trans p1 hW))
  have HF1 := Lib.hid (fun W A c (hW : newer w3 W) => HF1'.out W A c (newer_trans p1 hW))
  have x0 := p2.at 0 (v := .slice s.a s.cs.length s.c) rfl
  have x1 := p2.at 1 (v := vi s.least) rfl
  have u0 := p3.at 0 (v := vi u.frm) rfl
  have u1 := p3.at 1 (v := .slice u.a u.beds.length u.c) rfl
  have H3 := Lib.hid (And.intro p1 p4)
  clear p1 p2 p3 p4 HE0' HE1' HF0' HF1'
  refine wp_words (by kernel_rfl) (region_told 13 (by kernel_rfl) (by kernel_rfl) (fun W => Below w3.heap.size w3 W) newer (pickD [vIs (smV s), vIs (suV u), vIs (smV s), vIs (suV u), vEnd (bs.map (endR false)), vIs (vi g0), vIs (smV s), vIs (suV u), vIs (smV s), vIs (suV u), vEnd (bs.map (endR true)), vIs (vi g1), vIs (rgV ⟨g0, g1⟩)]) (fun h k => newer_trans h k) (pickD_stable _ ⟨vIs_st, vIs_st, vIs_st, vIs_st, vEnd_st, vIs_st, vIs_st, vIs_st, vIs_st, vIs_st, vEnd_st, vIs_st, vIs_st, trivial⟩) (Below.refl _ w3).drew (Below.refl _ _) ?_ ?_)
  · refine ⟨?_, ?_, ?_, ?_, ?_, ?_, ?_, ?_, ?_, ?_, ?_, ?_, ?_, trivial⟩
    · intro a W hG hR hO hp
      have h2 := hO.slot 2 (by kernel_rfl)
      have c0 := keep_cell x0 hG
      have c1 := keep_cell x1 hG
      refine wp_yields (v := smV s) ?_ ⟨_, rfl, rfl, Below.refl _ _, hG⟩
      simp [slotOf] at h2
      simp [execOp, go_sem, h2, c0, c1]
    · intro a W hG hR hO hp
      have h3 := hO.slot 3 (by kernel_rfl)
      have c0 := keep_cell u0 hG
      have c1 := keep_cell u1 hG
      refine wp_yields (v := suV u) ?_ ⟨_, rfl, rfl, Below.refl _ _, hG⟩
      simp [slotOf] at h3
      simp [execOp, go_sem, h3, c0, c1]
    · intro a W hG hR hO hp
      have h2 := hO.slot 2 (by kernel_rfl)
      have c0 := keep_cell x0 hG
      have c1 := keep_cell x1 hG
      refine wp_yields (v := smV s) ?_ ⟨_, rfl, rfl, Below.refl _ _, hG⟩
      simp [slotOf] at h2
      simp [execOp, go_sem, h2, c0, c1]
    · intro a W hG hR hO hp
      have h3 := hO.slot 3 (by kernel_rfl)
      have c0 := keep_cell u0 hG
      have c1 := keep_cell u1 hG
      refine wp_yields (v := suV u) ?_ ⟨_, rfl, rfl, Below.refl _ _, hG⟩
      simp [slotOf] at h3
      simp [execOp, go_sem, h3, c0, c1]
    · intro a W hG hR hO hp
      have h7 : slotOf a 7 = smV s := hp.1
      have h8 : slotOf a 8 = suV u := hp.2.1
      refine wp_enters (f := 45) (args := #[smV s, suV u, .bool false]) ?_ ((HE0.out W hG).mono ?_)
      · simp [slotOf] at h7 h8
        simp [go_sem, h7, h8]
      · rintro e w' ⟨A, c, rfl, hr, hb⟩
        exact ⟨_, rfl, _, rfl, ⟨A, c, rfl, hr⟩, hb, below_next hG hb⟩
    · intro a W hG hR hO hp
      have h5 : slotOf a 5 = smV s := hp.1
      have h6 : slotOf a 6 = suV u := hp.2.1
      have h9 := hp.2.2.1
      obtain ⟨A, c, h9, hrow⟩ := h9
      refine wp_enters (f := 48) (args := #[smV s, suV u, .slice A (bs.map (endR false)).length c]) ?_ ((HF0.out W A c hG hrow).mono ?_)
      · simp [slotOf] at h5 h6 h9
        simp [go_sem, h5, h6, h9]
      · rintro e w' ⟨rfl, hb⟩
        exact ⟨_, rfl, _, rfl, rfl, hb, below_next hG hb⟩
    · intro a W hG hR hO hp
      have h2 := hO.slot 2 (by kernel_rfl)
      have c0 := keep_cell x0 hG
      have c1 := keep_cell x1 hG
      refine wp_yields (v := smV s) ?_ ⟨_, rfl, rfl, Below.refl _ _, hG⟩
      simp [slotOf] at h2
      simp [execOp, go_sem, h2, c0, c1]
    · intro a W hG hR hO hp
      have h3 := hO.slot 3 (by kernel_rfl)
      have c0 := keep_cell u0 hG
      have c1 := keep_cell u1 hG
      refine wp_yields (v := suV u) ?_ ⟨_, rfl, rfl, Below.refl _ _, hG⟩
      simp [slotOf] at h3
      simp [execOp, go_sem, h3, c0, c1]
    · intro a W hG hR hO hp
      have h2 := hO.slot 2 (by kernel_rfl)
      have c0 := keep_cell x0 hG
      have c1 := keep_cell x1 hG
      refine wp_yields (v := smV s) ?_ ⟨_, rfl, rfl, Below.refl _ _, hG⟩
      simp [slotOf] at h2
      simp [execOp, go_sem, h2, c0, c1]
    · intro a W hG hR hO hp
      have h3 := hO.slot 3 (by kernel_rfl)
      have c0 := keep_cell u0 hG
      have c1 := keep_cell u1 hG
      refine wp_yields (v := suV u) ?_ ⟨_, rfl, rfl, Below.refl _ _, hG⟩
      simp [slotOf] at h3
      simp [execOp, go_sem, h3, c0, c1]
    · intro a W hG hR hO hp
      have h13 : slotOf a 13 = smV s := hp.1
      have h14 : slotOf a 14 = suV u := hp.2.1
      refine wp_enters (f := 45) (args := #[smV s, suV u, .bool true]) ?_ ((HE1.out W hG).mono ?_)
      · simp [slotOf] at h13 h14
        simp [go_sem, h13, h14]
      · rintro e w' ⟨A, c, rfl, hr, hb⟩
        exact ⟨_, rfl, _, rfl, ⟨A, c, rfl, hr⟩, hb, below_next hG hb⟩
    · intro a W hG hR hO hp
      have h11 : slotOf a 11 = smV s := hp.1
      have h12 : slotOf a 12 = suV u := hp.2.1
      have h15 := hp.2.2.1
      obtain ⟨A, c, h15, hrow⟩ := h15
      refine wp_enters (f := 48) (args := #[smV s, suV u, .slice A (bs.map (endR true)).length c]) ?_ ((HF1.out W A c hG hrow).mono ?_)
      · simp [slotOf] at h11 h12 h15
        simp [go_sem, h11, h12, h15]
      · rintro e w' ⟨rfl, hb⟩
        exact ⟨_, rfl, _, rfl, rfl, hb, below_next hG hb⟩
    · intro a W hG hR hO hp
      have h10 : slotOf a 10 = vi g0 := hp.1
      have h16 : slotOf a 16 = vi g1 := hp.2.1
      refine wp_yields (v := rgV ⟨g0, g1⟩) ?_ ⟨_, rfl, rfl, Below.refl _ _, hG⟩
      simp [slotOf] at h10 h16
      simp [execOp, go_sem, h10, h16]
  · intro wz hG hR
    rintro _ rfl _ rfl _ rfl _ rfl _ - _ rfl _ rfl _ rfl _ rfl _ rfl _ - _ rfl _ rfl
    change wpList _ _ _ _ _ _
    simp only [Act.put, List.setIfInBounds_toArray, List.set_cons_zero, List.set_cons_succ, List.drop_succ_cons, List.drop_zero]
    have hr := H3.out.2.below hG H3.out.2.lt
    have r0 := hr.at 0 (v := vi 0) rfl
    have r1 := hr.at 1 (v := vi 0) rfl
    have f0 := hr.free 0
    have f1 := hr.free 1
    have hset := (hr.set 0 (vi g0)).set 1 (vi g1)
    have z0 := hset.at 0 (v := vi g0) rfl
    have z1 := hset.at 1 (v := vi g1) rfl
    have HN := Lib.hid (((newer_trans H3.out.1 hG).setCell (p := ⟨w.heap.size + 1 + 1, 0, none⟩) (by show w.heap.size ≤ w.heap.size + 1 + 1; omega) (vi g0)).setCell (p := ⟨w.heap.size + 1 + 1, 1, none⟩) (by show w.heap.size ≤ w.heap.size + 1 + 1; omega) (vi g1))
    clear hr hset hG hR x0 x1 u0 u1
    go_wp2_with fail
    exact bodyPost_ret (v := .agg #[vi g0, vi g1]) (by simp [results, Try.results22, go_sem, z0, z1]) rfl ⟨rfl, HN.out⟩

end Go.Proofs.Ytkenokpobbichaa
