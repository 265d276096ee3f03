/- A slope, and a surface, laid anew for the program. -/
import Derived.Test.YtkenokpobbichaaAB
namespace Go.Proofs.Ytkenokpobbichaa
open Go.RowKit Go.Shelf Go.Deep

/-- A slope that is laid anew: what lies in memory behind so many columns. -/
structure CvJ (s : Sm) (i : Nat) (xs : List Cl) (A : Option Addr) (c : Nat) (w W : World) : Prop where
  nw : newer w W
  xb : Whole W w.heap.size 24 (smC s)
  rb : Whole W (w.heap.size + 1) 37 #[.slice none 0 0, vi 0]
  ob : Whole W (w.heap.size + 1 + 1) 37 #[.slice A xs.length c, vi s.least]
  own : W.ownsRow w.heap.size 105 1 (.slice A xs.length c) xs.length (xs.flatMap clL)
  col : ∀ x ∈ xs, W.ownsRow w.heap.size 104 8 (.slice x.a x.beds.length x.cp) x.beds.length (x.beds.flatMap bdL)
  eq : xs.map (fun x => x.beds) = (s.cs.take i).map fun x => x.beds
  ln : xs.length = i
section
variable {s : Sm} {i : Nat} {xs : List Cl} {A : Option Addr} {c : Nat} {w W W' : World}
theorem CvJ.next (h : CvJ s i xs A c w W) (hb : newer W W') : CvJ s i xs A c w W' :=
  ⟨newer_trans h.nw hb, h.xb.below hb h.xb.lt, h.rb.below hb h.rb.lt, h.ob.below hb h.ob.lt, own_below h.own hb, fun x hx => own_below (h.col x hx) hb, h.eq, h.ln⟩
/-- One column more. -/
theorem CvJ.add (h : CvJ s i xs A c w W) {x y : Cl} (hx : s.cs[i]? = some x) (hy : y.beds = x.beds) (hc : W.ownsRow w.heap.size 104 8 (.slice y.a y.beds.length y.cp) y.beds.length (y.beds.flatMap bdL))
    {g2 c2 : Nat} (hown : W'.ownsRow w.heap.size 105 1 (.slice (some ⟨g2, 0, none⟩) (xs.length + 1) c2) (xs.length + 1) (xs.flatMap clL ++ [clV y])) (hw : (A = some ⟨g2, 0, none⟩ ∧ c2 = c ∧ W.grownBy W' (some g2)) ∨ (W.heap.size ≤ g2 ∧ W.grownBy W' none)) :
    Whole W' (w.heap.size + 1 + 1) 37 #[.slice A xs.length c, vi s.least] ∧ CvJ s (i + 1) (xs ++ [y]) (some ⟨g2, 0, none⟩) c2 w (W'.setCell ⟨w.heap.size + 1 + 1, 0, none⟩ (.slice (some ⟨g2, 0, none⟩) (xs.length + 1) c2)) := by
  have hgr : W.grownBy W' (Value.slice A xs.length c).ownBlock := by
    rcases hw with ⟨h1, _, h3⟩ | ⟨_, h3⟩
    · rw [h1]; exact h3
    · exact h3.but _
  have k1 := h.xb.grown hgr (fun e => own_ne h.own h.xb (by decide) e.symm)
  have k2 := h.rb.grown hgr (fun e => own_ne h.own h.rb (by decide) e.symm)
  have k3 := h.ob.grown hgr (fun e => own_ne h.own h.ob (by decide) e.symm)
  have k4 : ∀ z : Cl, W.ownsRow w.heap.size 104 8 (.slice z.a z.beds.length z.cp) z.beds.length (z.beds.flatMap bdL) → W'.ownsRow w.heap.size 104 8 (.slice z.a z.beds.length z.cp) z.beds.length (z.beds.flatMap bdL) := fun z h2 => h2.kept hgr (own_apart h2 h.own (by decide))
  have hnw : newer w W' := by
    rcases hw with ⟨h1, _, h3⟩ | ⟨_, h3⟩
    · refine Below.trans h.nw (below_of_grown h3 (own_ge h.own g2 (by rw [h1]; rfl)) h.nw.size)
    · exact newer_trans h.nw (below_grown h3 (fun q e => by cases e) (Nat.le_refl _))
  refine ⟨k3, hnw.setCell (p := ⟨w.heap.size + 1 + 1, 0, none⟩) (by show w.heap.size ≤ w.heap.size + 1 + 1; omega) _, k1.far (p := ⟨w.heap.size + 1 + 1, 0, none⟩) (by show w.heap.size ≠ w.heap.size + 1 + 1; omega) _, k2.far (p := ⟨w.heap.size + 1 + 1, 0, none⟩) (by show w.heap.size + 1 ≠ w.heap.size + 1 + 1; omega) _, ?_, ?_, fun z hz => ?_, ?_, by rw [List.length_append, h.ln]; rfl⟩
  · rw [List.length_append]
    exact k3.set 0 _
  · rw [List.length_append, List.flatMap_append]
    exact own_set hown (own_ne hown k3 (by decide)) _
  · rcases List.mem_append.1 hz with hz | hz
    · have h3 := k4 z (h.col z hz)
      exact own_set h3 (own_ne h3 k3 (by decide)) _
    · obtain rfl : z = y := List.mem_singleton.1 hz
      have h3 := k4 z hc
      exact own_set h3 (own_ne h3 k3 (by decide)) _
  · rw [List.map_append, h.eq, List.take_add_one, hx, List.map_append]
    congr 1
    simp [hy]
/-- All columns; the result's box is written. -/
theorem CvJ.done (h : CvJ s s.cs.length xs A c w W) (u v : Value) : SmOk ⟨xs, A, c, s.least⟩ ((W.setCell ⟨w.heap.size + 1, 0, none⟩ u).setCell ⟨w.heap.size + 1, 1, none⟩ v) ∧ Sm.sd ⟨xs, A, c, s.least⟩ = s.sd ∧ newer w ((W.setCell ⟨w.heap.size + 1, 0, none⟩ u).setCell ⟨w.heap.size + 1, 1, none⟩ v) ∧ Whole ((W.setCell ⟨w.heap.size + 1, 0, none⟩ u).setCell ⟨w.heap.size + 1, 1, none⟩ v) (w.heap.size + 1) 37 #[u, v] := by
  refine ⟨⟨?_, fun x hx => ?_⟩, ?_, (h.nw.setCell (p := ⟨w.heap.size + 1, 0, none⟩) (Nat.le_succ _) u).setCell (p := ⟨w.heap.size + 1, 1, none⟩) (Nat.le_succ _) v, (h.rb.set 0 u).set 1 v⟩
  · exact row_of_own (by omega) (fun _ => rfl) (own_set (own_set h.own (own_ne h.own h.rb (by decide)) u) (own_ne h.own h.rb (by decide)) v)
  · have h2 := h.col x hx
    exact row_of_own (by omega) (fun _ => rfl) (own_set (own_set h2 (own_ne h2 h.rb (by decide)) u) (own_ne h2 h.rb (by decide)) v)
  · have e := h.eq
    rw [List.take_length] at e
    show (⟨xs.map (fun x => x.beds), s.least⟩ : Sd) = ⟨s.cs.map fun x => x.beds, s.least⟩
    rw [e]
end
set_option maxRecDepth 100000 in
set_option maxHeartbeats 2000000 in
theorem lawSlope (s : Sm) (w : World) (hok : SmOk s w) (few : SmFew s) : Calls Try.prog 19 #[smV s] w fun e w' => ∃ s2 : Sm, e = .returned (smV s2) ∧ s2.sd = s.sd ∧ SmOk s2 w' ∧ newer w w' := by
  have H0 : Hid (CvJ s 0 [] none 0 w (((w.alloc (.cells (smC s) 24)).alloc (.cells #[.slice none 0 0, vi 0] 37)).alloc (.cells #[.slice none 0 0, vi s.least] 37))) := Lib.hid (by
    have e1 := newer_allocH w (.cells (smC s) 24)
    have e2 := newer_allocH (w.alloc (.cells (smC s) 24)) (.cells #[.slice none 0 0, vi 0] 37)
    have e3 := newer_allocH ((w.alloc (.cells (smC s) 24)).alloc (.cells #[.slice none 0 0, vi 0] 37)) (.cells #[.slice none 0 0, vi s.least] 37)
    have a1 := Whole.made w 24 (smC s)
    have a2 := Whole.made (w.alloc (.cells (smC s) 24)) 37 #[.slice none 0 0, vi 0]
    have a3 := Whole.made ((w.alloc (.cells (smC s) 24)).alloc (.cells #[.slice none 0 0, vi 0] 37)) 37 #[.slice none 0 0, vi s.least]
    rw [World.size_alloc] at a2
    rw [World.size_alloc, World.size_alloc] at a3
    exact ⟨newer_trans (newer_trans e1 e2) e3, (a1.below e2 a1.lt).below e3 (by simp; omega), a2.below e3 a2.lt, a3, ⟨rfl, .inl ⟨rfl, rfl⟩⟩, fun x hx => by simp at hx, rfl, rfl⟩)
  have HOK := Lib.hid hok
  have HFW := Lib.hid few
  have hcl := few.cs
  obtain ⟨i0, hi0, hz0, hz1, hz2⟩ := info_parts info_col
  have HI := Lib.hid (And.intro hi0 (And.intro hz0 (And.intro hz1 hz2)))
  obtain ⟨i8, hj0, hy0, hy1, hy2⟩ := info_parts info_bd
  have HI8 := Lib.hid (And.intro hj0 (And.intro hy0 (And.intro hy1 hy2)))
  have x1 := H0.out.xb.at 1 (v := vi s.least) rfl
  clear hok few hi0 hz0 hz1 hz2 hj0 hy0 hy1 hy2
  go_enter Try.func19, Try.ntmps19
  go_wp2_with fail
  clear x1
  go_loopw [4] (fun s4 wr => ∃ (i : Nat) (xs : List Cl) (A : Option Addr) (c : Nat), i ≤ s.cs.length ∧ s4 = vi i ∧ CvJ s i xs A c w wr) (fun s4 _ => s.cs.length - (intOf s4).toNat)
  case atStart => exact ⟨0, [], none, 0, Nat.zero_le _, rfl, H0.out⟩
  case round =>
    obtain ⟨i, xs, A, c, hi, rfl, hj⟩ := hrel
    clear H0
    have HJ := Lib.hid hj
    have x0 := hj.xb.at 0 (v := .slice s.a s.cs.length s.c) rfl
    clear hj
    obtain ⟨wo, rfl⟩ : ∃ wo : World, wo = wr := ⟨_, rfl⟩
    by_cases hlt : i < s.cs.length
    · obtain ⟨x, hx⟩ := get_of_lt hlt
      have hxn := HFW.out.bd x (List.mem_of_getElem? hx)
      have HX := Lib.hid (And.intro hx (List.mem_of_getElem? hx))
      obtain ⟨b1, o1, ea, _, cx⟩ := rowC (HOK.out.next HJ.out.nw).cs hx
      have HEA := Lib.hid (And.intro ea cx)
      clear hx cx ea
      go_wp2_with fail
      go_loopw [5, 6] (fun s5 s6 wr => ∃ (j : Nat) (A2 : Option Addr) (c2 : Nat), j ≤ x.beds.length ∧ s6 = vi j ∧ s5 = .slice A2 j c2 ∧ newer wo wr ∧ wr.ownsRow wo.heap.size 104 8 (.slice A2 j c2) j ((x.beds.take j).flatMap bdL)) (fun _ s6 _ => x.beds.length - (intOf s6).toNat)
      case atStart => exact ⟨0, none, 0, Nat.zero_le _, rfl, rfl, Below.refl _ _, ⟨rfl, .inl ⟨rfl, rfl⟩⟩⟩
      case round =>
        obtain ⟨j, A2, c2, hj, rfl, rfl, q1, q2⟩ := hrel
        clear x0
        have hj2 := HJ.out.next q1
        have HJ2 := Lib.hid hj2
        have x0 := hj2.xb.at 0 (v := .slice s.a s.cs.length s.c) rfl
        rw [HEA.out.1] at x0
        have cx := keep_cell HEA.out.2 q1
        have hii : (i : Int) < s.cs.length := by omega
        have HQ := Lib.hid (And.intro q1 q2)
        clear hj2 q1 q2
        by_cases hlt2 : j < x.beds.length
        · obtain ⟨b, hb⟩ := get_of_lt hlt2
          obtain ⟨b4, o4, e4, _, d0, d1, d2, d3, d4, d5, d6, d7⟩ := row8 ((HOK.out.next HJ2.out.nw).bd x HX.out.2) hb
          rw [e4] at cx
          have hji : (j : Int) < x.beds.length := by omega
          have HB := Lib.hid hb
          have e5 := newer_allocH wr (.cells (bdC b) 69)
          have HE4 := Lib.hid (And.intro (newer_trans HQ.out.1 e5) (And.intro (own_below HQ.out.2 e5) (Whole.made wr 69 (bdC b))))
          clear hb e4 e5
          go_upto_region 10 with fail
          refine genQ (fun X => newer wo X ∧ X.ownsRow wo.heap.size 104 8 (.slice A2 j c2) j ((x.beds.take j).flatMap bdL) ∧ Whole X wr.heap.size 69 (bdC b)) HE4.out ?_
          clear HE4 d0 d1 d2 d3 d4 d5 d6 d7 cx x0
          obtain ⟨bb, hbb⟩ : ∃ bb, bb = wr.heap.size := ⟨_, rfl⟩
          rw [← hbb]
          rintro w5 ⟨p1, p2, p4⟩
          have z0 := p4.at 0 (v := vi b.drive) rfl
          have z1 := p4.at 1 (v := vi b.normal) rfl
          have z2 := p4.at 2 (v := vi b.fr.lo) rfl
          have z3 := p4.at 3 (v := vi b.fr.hi) rfl
          have z4 := p4.at 4 (v := vi b.co.lo) rfl
          have z5 := p4.at 5 (v := vi b.co.hi) rfl
          have z6 := p4.at 6 (v := vi b.wa.lo) rfl
          have z7 := p4.at 7 (v := vi b.wa.hi) rfl
          have HE5 := Lib.hid (And.intro p1 p2)
          clear p1 p2 p4 hbb
          refine wp_words (by kernel_rfl) (region_told 16 (by kernel_rfl) (by kernel_rfl) (fun W => Below w5.heap.size w5 W) newer (pickD [vIs (.slice A2 j c2), vIs (.pointer (some ⟨bb, 0, none⟩)), vIs (vi b.drive), vIs (.pointer (some ⟨bb, 1, none⟩)), vIs (vi b.normal), vIs (.pointer (some ⟨bb, 2, none⟩)), vIs (rgV b.fr), vIs (rgV b.fr), vIs (.pointer (some ⟨bb, 4, none⟩)), vIs (rgV b.co), vIs (rgV b.co), vIs (.pointer (some ⟨bb, 6, none⟩)), vIs (rgV b.wa), vIs (rgV b.wa), vIs (bdV b), vOne w5.heap.size 104 (bdC b)]) (fun h k => newer_trans h k) (pickD_stable _ ⟨vIs_st, vIs_st, vIs_st, vIs_st, vIs_st, vIs_st, vIs_st, vIs_st, vIs_st, vIs_st, vIs_st, vIs_st, vIs_st, vIs_st, vIs_st, vOne_st, trivial⟩) (Below.refl _ w5).drew (Below.refl _ _) ?_ ?_)
          · refine ⟨?_, ?_, ?_, ?_, ?_, ?_, ?_, ?_, ?_, ?_, ?_, ?_, ?_, ?_, ?_, ?_, trivial⟩
            · intro a W hG hR hO hp
              have h5 := hO.slot 5 (by kernel_rfl)
              refine wp_yields (v := .slice A2 j c2) ?_ ⟨_, rfl, rfl, Below.refl _ _, hG⟩
              simp [slotOf] at h5
              simp [execOp, go_sem, h5]
            · intro a W hG hR hO hp
              have h7 := hO.slot 7 (by kernel_rfl)
              refine wp_yields (v := .pointer (some ⟨bb, 0, none⟩)) ?_ ⟨_, rfl, rfl, Below.refl _ _, hG⟩
              simp [slotOf] at h7
              simp [execOp, go_sem, h7]
            · intro a W hG hR hO hp
              have h37 : slotOf a 37 = .pointer (some ⟨bb, 0, none⟩) := hp.1
              have c0 := keep_cell z0 hG
              refine wp_yields (v := vi b.drive) ?_ ⟨_, rfl, rfl, Below.refl _ _, hG⟩
              simp [slotOf] at h37
              simp [execOp, go_sem, h37, c0]
            · intro a W hG hR hO hp
              have h7 := hO.slot 7 (by kernel_rfl)
              refine wp_yields (v := .pointer (some ⟨bb, 1, none⟩)) ?_ ⟨_, rfl, rfl, Below.refl _ _, hG⟩
              simp [slotOf] at h7
              simp [execOp, go_sem, h7]
            · intro a W hG hR hO hp
              have h39 : slotOf a 39 = .pointer (some ⟨bb, 1, none⟩) := hp.1
              have c0 := keep_cell z1 hG
              refine wp_yields (v := vi b.normal) ?_ ⟨_, rfl, rfl, Below.refl _ _, hG⟩
              simp [slotOf] at h39
              simp [execOp, go_sem, h39, c0]
            · intro a W hG hR hO hp
              have h7 := hO.slot 7 (by kernel_rfl)
              refine wp_yields (v := .pointer (some ⟨bb, 2, none⟩)) ?_ ⟨_, rfl, rfl, Below.refl _ _, hG⟩
              simp [slotOf] at h7
              simp [execOp, go_sem, h7]
            · intro a W hG hR hO hp
              have h41 : slotOf a 41 = .pointer (some ⟨bb, 2, none⟩) := hp.1
              have c0 := keep_cell z2 hG
              have c1 := keep_cell z3 hG
              refine wp_yields (v := rgV b.fr) ?_ ⟨_, rfl, rfl, Below.refl _ _, hG⟩
              simp [slotOf] at h41
              simp [execOp, go_sem, h41, c0, c1]
            · intro a W hG hR hO hp
              have h42 : slotOf a 42 = rgV b.fr := hp.1
              refine wp_enters (f := 23) (args := #[rgV b.fr]) ?_ ((to_any b.fr W).mono ?_)
              · simp [slotOf] at h42
                simp [go_sem, h42]
              · rintro e w' ⟨rfl, hb⟩
                exact ⟨_, rfl, _, rfl, rfl, hb, below_next hG hb⟩
            · intro a W hG hR hO hp
              have h7 := hO.slot 7 (by kernel_rfl)
              refine wp_yields (v := .pointer (some ⟨bb, 4, none⟩)) ?_ ⟨_, rfl, rfl, Below.refl _ _, hG⟩
              simp [slotOf] at h7
              simp [execOp, go_sem, h7]
            · intro a W hG hR hO hp
              have h44 : slotOf a 44 = .pointer (some ⟨bb, 4, none⟩) := hp.1
              have c0 := keep_cell z4 hG
              have c1 := keep_cell z5 hG
              refine wp_yields (v := rgV b.co) ?_ ⟨_, rfl, rfl, Below.refl _ _, hG⟩
              simp [slotOf] at h44
              simp [execOp, go_sem, h44, c0, c1]
            · intro a W hG hR hO hp
              have h45 : slotOf a 45 = rgV b.co := hp.1
              refine wp_enters (f := 23) (args := #[rgV b.co]) ?_ ((to_any b.co W).mono ?_)
              · simp [slotOf] at h45
                simp [go_sem, h45]
              · rintro e w' ⟨rfl, hb⟩
                exact ⟨_, rfl, _, rfl, rfl, hb, below_next hG hb⟩
            · intro a W hG hR hO hp
              have h7 := hO.slot 7 (by kernel_rfl)
              refine wp_yields (v := .pointer (some ⟨bb, 6, none⟩)) ?_ ⟨_, rfl, rfl, Below.refl _ _, hG⟩
              simp [slotOf] at h7
              simp [execOp, go_sem, h7]
            · intro a W hG hR hO hp
              have h47 : slotOf a 47 = .pointer (some ⟨bb, 6, none⟩) := hp.1
              have c0 := keep_cell z6 hG
              have c1 := keep_cell z7 hG
              refine wp_yields (v := rgV b.wa) ?_ ⟨_, rfl, rfl, Below.refl _ _, hG⟩
              simp [slotOf] at h47
              simp [execOp, go_sem, h47, c0, c1]
            · intro a W hG hR hO hp
              have h48 : slotOf a 48 = rgV b.wa := hp.1
              refine wp_enters (f := 23) (args := #[rgV b.wa]) ?_ ((to_any b.wa W).mono ?_)
              · simp [slotOf] at h48
                simp [go_sem, h48]
              · rintro e w' ⟨rfl, hb⟩
                exact ⟨_, rfl, _, rfl, rfl, hb, below_next hG hb⟩
            · intro a W hG hR hO hp
              have h38 : slotOf a 38 = vi b.drive := hp.1
              have h40 : slotOf a 40 = vi b.normal := hp.2.1
              have h43 : slotOf a 43 = rgV b.fr := hp.2.2.1
              have h46 : slotOf a 46 = rgV b.co := hp.2.2.2.1
              have h49 : slotOf a 49 = rgV b.wa := hp.2.2.2.2.1
              refine wp_yields (v := bdV b) ?_ ⟨_, rfl, rfl, Below.refl _ _, hG⟩
              simp [slotOf] at h38 h40 h43 h46 h49
              simp [execOp, go_sem, h38, h40, h43, h46, h49]
            · intro a W hG hR hO hp
              have h50 : slotOf a 50 = bdV b := hp.1
              refine wp_makes (v := .slice (some ⟨W.heap.size, 0, none⟩) 1 1) (W' := W.alloc (.cells (bdC b) 104)) ?_ ⟨_, rfl, ⟨_, rfl, hG.size, Whole.made _ _ _⟩, newer_allocH _ _, below_next hG (newer_allocH _ _)⟩
              simp [slotOf] at h50
              simp [execOp, go_sem, h50]
          · intro wz hG hR
            rintro _ rfl _ rfl _ rfl _ rfl _ rfl _ rfl _ rfl _ rfl _ rfl _ rfl _ rfl _ rfl _ rfl _ rfl _ rfl _ ⟨nb, rfl, hnb, hW⟩
            change wpList _ _ _ _ _ _
            simp only [Act.put, List.setIfInBounds_toArray, List.set_cons_zero, List.set_cons_succ, List.drop_succ_cons, List.drop_zero]
            have HO := Lib.hid (own_below HE5.out.2 hG)
            have HN := Lib.hid (newer_trans HE5.out.1 hG)
            have HWN := Lib.hid (World.news_of_block hW)
            clear hG hR hW z0 z1 z2 z3 z4 z5 z6 z7
            go_wp2_with (at_builtin; go_loud ((refine wpList_append_lies _ rfl (.tmp 36) (.tmp 51) 105 rfl wo.heap.size 104 i8 (.agg #[vi 0, vi 0, vi 0, vi 0, vi 0, vi 0, vi 0, vi 0]) 8 64 Try.underlying105 HI8.out.1 HI8.out.2.1 HI8.out.2.2.1 HI8.out.2.2.2 rfl (by omega) _ j _ rfl HO.out ⟨nb, 0, none⟩ 1 1 (bdL b) rfl rfl HWN.out (by simp [Value.oneCell']) (by omega) (by unfold maxLen; omega) (by omega) HN.out.size wz.heap.size rfl ?_); intro gg cp2 w2 hown2 hgrow2 hat2 hlt3; rw [← take_flat bdL _ j b HB.out] at hown2; have HE := Lib.hid (And.intro hown2 (And.intro hgrow2 (own_ge HO.out))); clear hown2 hgrow2 hat2 hlt3))
            refine ⟨⟨j + 1, some ⟨gg, 0, none⟩, cp2, by omega, rfl, rfl, ?_, HE.out.1⟩, ?_⟩
            · exact below_grown (grown_trans' (grown_of_newer HN.out _) HE.out.2.1) HE.out.2.2 (Nat.le_refl _)
            · simp [intOf]
              omega
        · obtain rfl : j = x.beds.length := by omega
          have hown := HQ.out.2
          rw [List.take_of_length_le (Nat.le_refl _)] at hown
          obtain ⟨y, hy⟩ : ∃ y : Cl, y = ⟨x.beds, A2, c2⟩ := ⟨_, rfl⟩
          have hn1 := newer_allocH wr (.cells #[.slice A2 x.beds.length c2] 105)
          have hcy : clV y = .slice A2 x.beds.length c2 := by rw [hy]
          have HADD := Lib.hid (fun g2 c3 w5 => (HJ2.out.next hn1).add (W' := w5) HX.out.1 (y := y) (by rw [hy]) (by rw [hy]; exact own_more (own_below hown hn1) HJ.out.nw.size) (g2 := g2) (c2 := c3))
          have HJ3 := Lib.hid (HJ2.out.next hn1)
          have HXS := Lib.hid (show xs.length ≤ 1000 by have := HJ.out.ln; omega)
          have HCW : Hid ((wr.alloc (.cells #[.slice A2 x.beds.length c2] 105)).cell? ⟨wr.heap.size, 0, none⟩ = some (.slice A2 x.beds.length c2)) := Lib.hid ((Whole.made wr 105 #[.slice A2 x.beds.length c2]).at 0 rfl)
          rw [hcy] at HADD
          have o0 := HJ2.out.ob.at 0 (v := .slice A xs.length c) rfl
          clear hown hn1 hcy hy
          go_wp2_with (at_builtin; go_loud ((refine wpList_plain rfl fun _ hK => wp_append_one (.tmp 54) (.tmp 56) 35 rfl w.heap.size 105 i0 (.slice none 0 0) 24 Try.underlying35 HI.out.1 HI.out.2.1 HI.out.2.2.1 HI.out.2.2.2 rfl A xs.length c (xs.flatMap clL) rfl HJ3.out.own ⟨wr.heap.size, 0, none⟩ 1 (.slice A2 x.beds.length c2) rfl HCW.out rfl (by have := HXS.out; unfold maxLen; omega) (by have := HXS.out; omega) HJ3.out.nw.size fun g2 c3 w5 hown hwh => hK _ _ ?_); have HE := Lib.hid (HADD.out g2 c3 w5 hown hwh); have p0 := HE.out.1.at 0 (v := .slice A xs.length c) rfl; have pf0 := HE.out.1.free 0; clear hown hwh))
          refine ⟨⟨i + 1, xs ++ [y], some ⟨g2, 0, none⟩, c3, by omega, rfl, HE.out.2⟩, ?_⟩
          simp [intOf]
          omega
    · obtain rfl : i = s.cs.length := by omega
      have o0 := HJ.out.ob.at 0 (v := .slice A xs.length c) rfl
      have o1 := HJ.out.ob.at 1 (v := vi s.least) rfl
      have r0 := HJ.out.rb.at 0 (v := .slice none 0 0) rfl
      have r1 := HJ.out.rb.at 1 (v := vi 0) rfl
      have f0 := HJ.out.rb.free 0
      have f1 := HJ.out.rb.free 1
      have HF := Lib.hid (HJ.out.done (.slice A xs.length c) (vi s.least))
      have z0 := HF.out.2.2.2.at 0 (v := .slice A xs.length c) rfl
      have z1 := HF.out.2.2.2.at 1 (v := vi s.least) rfl
      go_wp2_with fail
      exact bodyPost_ret (v := .agg #[.slice A xs.length c, vi s.least]) (by simp [results, Try.results19, go_sem, z0, z1]) rfl ⟨⟨xs, A, c, s.least⟩, rfl, HF.out.2.1, HF.out.1, HF.out.2.2.1⟩

end Go.Proofs.Ytkenokpobbichaa
